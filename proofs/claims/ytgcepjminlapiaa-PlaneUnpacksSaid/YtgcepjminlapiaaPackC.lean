/- The walks of the reference's packing: group, signed, sum, Packed, and its comparisons. -/
import Derived.Test.YtgcepjminlapiaaPackB
import Derived.Test.YtgcepjminlapiaaPlaneE
namespace Go.Proofs.Ytgcepjminlapiaa
open Go.RowKit
set_option linter.unusedVariables false
set_option linter.unusedSimpArgs false
def GroupRes (w : World) (l : List Nat) (e : Ending) (w' : World) : Prop := ∃ g c, e = .returned (.slice (some ⟨g, 0, none⟩) l.length c) ∧ (∀ j u, (bC l)[j]? = some u → w'.cell? ((⟨g, 0, none⟩ : Addr).add j) = some u) ∧ Below w.heap.size w w'
theorem own_src {w : World} {base : Nat} {e : TypeId} {v : Value} {n : Nat} {l : List Nat} (h : w.ownsRow base e 1 v n (bC l)) (hl : 1 ≤ l.length) : ∃ g c, v = .slice (some ⟨g, 0, none⟩) l.length c ∧ ∀ j u, (bC l)[j]? = some u → w.cell? ((⟨g, 0, none⟩ : Addr).add j) = some u := by
  have hn : n = l.length := by have := h.1; rw [bC_len] at this; omega
  rcases h.2 with ⟨_, h0⟩ | ⟨g, cap, cur, hv, _⟩
  · omega
  · exact ⟨g, cap, by rw [hv, hn], h.cells (g := g) (by rw [hv]; rfl)⟩
set_option maxRecDepth 100000 in
set_option maxHeartbeats 1000000 in
theorem group_any (n : Nat) (hn : n < 34359738368) (w : World) : Calls Try.prog 69 #[.int .i64 (n : Int)] w (GroupRes w (grp n)) := by
  have hgl := (grp_len 4 n (by simpa using hn))
  obtain ⟨i0, hi, hz0, hz1, hz2⟩ := info_parts info_u8
  go_enter Try.func69, Try.ntmps69
  go_wp2
  go_loopw [3, 0] (fun s3 s0 wr => ∃ (n' m : Nat) (ys : List Nat), s0 = .int .i64 (n' : Int) ∧ n' ≤ n ∧ m = ys.length ∧ wr.ownsRow w.heap.size 5 1 s3 m (bC ys) ∧ Hid (ys ++ grp n' = grp n) ∧ Below w.heap.size w wr) (fun _ s0 _ => (intOf s0).toNat)
  case atStart => exact ⟨n, 0, [], rfl, Nat.le_refl _, rfl, World.ownsRow_nil _ _ _ _, Lib.hid rfl, Below.refl _ _⟩
  case round =>
    rename_i s3 s0
    obtain ⟨n', m, ys, rfl, hle, hml, hown, HY, hbl⟩ := hrel
    have hm : m ≤ 5 := by have := congrArg List.length HY.out; simp at this; omega
    have hsz := hbl.size
    have HM := Lib.hid hml
    clear hml
    by_cases hlt : n' < 128
    · have hlt' : ¬ (128 : Int) ≤ (n' : Int) := by omega
      go_wp2_with (at_builtin; refine wpList_append_own _ rfl _ _ 70 rfl w.heap.size 5 i0 (.int .u8 0) 1 1 Try.underlying70 hi hz0 hz1 hz2 rfl (by decide) _ m _ rfl (hown.alloc _) ⟨wr.heap.size, 0, none⟩ 1 1 [.int .u8 (n' : Int)] rfl rfl cells_new (by simp; rfl) (by unfold maxLen; omega) (by omega) (by simp; omega) ?_; intro v' w6 hown6 hgrow6 hnil6; obtain ⟨a6, c6, rfl⟩ := own_len hown6)
      go_ret
      have hy := HY.out
      rw [grp_lt hlt] at hy
      have hown7 : w6.ownsRow w.heap.size 5 1 (.slice a6 (m + 1) c6) (m + 1) (bC (grp n)) := by rw [← hy, bC_append]; exact hown6
      obtain ⟨g, c, hv, hc⟩ := own_src hown7 hgl.1
      exact ⟨g, c, by rw [← hv]; rfl, hc, (hbl.alloc (by omega) _).grown hgrow6 (by simp; omega) (fun g hg => (hown.lt g hg).1)⟩
    · have hlt' : (128 : Int) ≤ (n' : Int) := by omega
      have b3 : ((n' : Int) % 128 + 128) % 256 = (n' : Int) % 128 + 128 := by omega
      go_wp2_with (at_builtin; refine wpList_append_own _ rfl _ _ 70 rfl w.heap.size 5 i0 (.int .u8 0) 1 1 Try.underlying70 hi hz0 hz1 hz2 rfl (by decide) _ m _ rfl (hown.alloc _) ⟨wr.heap.size, 0, none⟩ 1 1 [.int .u8 ((n' : Int) % 128 + 128)] rfl rfl cells_new (by simp; rfl) (by unfold maxLen; omega) (by omega) (by simp; omega) ?_; intro v' w6 hown6 hgrow6 hnil6; obtain ⟨a6, c6, rfl⟩ := own_len hown6)
      go_roundw
      case rel =>
        have hy := HY.out
        rw [grp_ge hlt] at hy
        refine ⟨n' / 128, m + 1, ys ++ [n' % 128 + 128], by first | rfl | simp, by omega, by rw [HM.out]; simp, ?_, Lib.hid (by rw [← hy]; simp), (hbl.alloc (by omega) _).grown hgrow6 (by simp; omega) (fun g hg => (hown.lt g hg).1)⟩
        rw [bC_append]
        have e : bC [n' % 128 + 128] = [.int .u8 ((n' : Int) % 128 + 128)] := by simp [bC]
        rw [e]; exact hown6
      case measure => simp [intOf]; omega
theorem signed_any (d : Int) (w : World) (h : -4000000000 ≤ d ∧ d ≤ 4000000000) : Calls Try.prog 70 #[.int .i64 d] w fun e w' => e = .returned (.int .i64 (zig d)) ∧ w = w' := by
  obtain ⟨h1, h2⟩ := h
  by_cases hd : d < 0
  · have HZ := Lib.hid (show zig d = -2 * d - 1 by unfold zig; rw [if_pos hd])
    go_enter Try.func70, Try.ntmps70
    go_wp2
    go_ret
    exact ⟨ret_int (by rw [HZ.out]), rfl⟩
  · have HZ := Lib.hid (show zig d = 2 * d by unfold zig; rw [if_neg hd])
    go_enter Try.func70, Try.ntmps70
    go_wp2
    go_ret
    exact ⟨ret_int (by rw [HZ.out]), rfl⟩
set_option maxRecDepth 100000 in
set_option maxHeartbeats 1000000 in
theorem sum_any (a : Option Addr) (n c : Nat) (f : Nat → Nat) (w : World) (B : Nat) (hBw : B ≤ w.heap.size) (hb : Bytes B w a n f) (hf : ∀ i, i < n → f i < 256) (hn : n ≤ 2000) :
    Calls Try.prog 71 #[.slice a n c] w fun e w' => e = .returned (.int .i64 (chkN f n : Int)) ∧ w = w' := by
  have HB := Lib.hid hb
  have HF := Lib.hid hf
  have HS := Lib.hid (fun k => @chk_step f k)
  have HL := Lib.hid (fun k => chkN_lt f k)
  have H0 := Lib.hid (show chkN f 0 = 0 from rfl)
  clear hb hf
  generalize chkN f = C at *
  go_enter Try.func71, Try.ntmps71
  go_wp2
  go_loop [3, 4] (fun s3 t => ∃ k : Nat, k ≤ n ∧ t = .int .i64 (k : Int) ∧ s3 = .int .i64 (C k : Int)) (fun _ t => n - (intOf t).toNat)
  case atStart => exact ⟨0, Nat.zero_le _, rfl, by rw [H0.out]; rfl⟩
  case round =>
    obtain ⟨k, hk, rfl, rfl⟩ := hrel
    have hl := HL.out k
    by_cases hlt : k < n
    · rcases HB.out with e0 | ⟨b, off, rfl, hbB, hc⟩
      · omega
      have c0 := hc k hlt
      have hbz : b < w.heap.size := by omega
      have hfk := HF.out k hlt
      have HSK := Lib.hid (HS.out k)
      have hm : ((k : Int) + 1) * (f k : Int) ≤ 510000 ∧ 0 ≤ ((k : Int) + 1) * (f k : Int) := by
        refine ⟨?_, Int.mul_nonneg (by omega) (by omega)⟩
        have := Int.mul_le_mul (a := (k : Int) + 1) (b := (f k : Int)) (c := 2000) (d := 255) (by omega) (by omega) (by omega) (by omega)
        omega
      obtain ⟨hm1, hm2⟩ := hm
      clear hc
      go_wp2
      go_round
      case rel => exact ⟨k + 1, by omega, by go_num, by rw [HSK.out]⟩
      case measure => simp [intOf]; omega
    · obtain rfl : n = k := by omega
      go_wp2
      go_ret
      exact ⟨rfl, rfl⟩
set_option maxRecDepth 100000 in
set_option maxHeartbeats 2000000 in
theorem Packed_any (a : Option Addr) (m d : Nat) (hs : Nat → HV) (w : World) (B : Nat) (hBw : B ≤ w.heap.size) (hH : Hits B w a m hs) :
    Calls Try.prog 38 #[.slice a m d] w fun e w' => e = .returned (.bool (packB m hs)) ∧ Below w.heap.size w w' := by
  have hm := hH.1
  unfold maxLen at hm
  have HH := Lib.hid hH
  have HNo := Lib.hid (fun i (hi : i < m) (h : packableB (hs i) = false) => show packB m hs = false from allUpto_false hi h)
  have HYes := Lib.hid (fun (h : ∀ i, i < m → packableB (hs i) = true) => show packB m hs = true from allUpto_true h)
  generalize packB m hs = R at *
  clear hH
  go_enter Try.func38, Try.ntmps38
  go_wp2
  go_loopw [3] (fun t wr => ∃ k : Nat, k ≤ m ∧ t = .int .i64 (k : Int) ∧ Hid (∀ j, j < k → packableB (hs j) = true) ∧ Below w.heap.size w wr) (fun t _ => m - (intOf t).toNat)
  case atStart => exact ⟨0, Nat.zero_le _, rfl, Lib.hid (fun j h => by omega), Below.refl _ _⟩
  case round =>
    obtain ⟨k, hk, rfl, HALL, hb⟩ := hrel
    by_cases hlt : k < m
    · obtain ⟨b, off, rfl, hbB, y0, y1, y2, y3, y4, y5⟩ := (HH.out.below (hb.mono hBw)).get hlt
      have hbz : b < wr.heap.size := by have := hb.size; omega
      have HNk := Lib.hid (HNo.out k hlt)
      have HST := Lib.hid (fun (h : packableB (hs k) = true) => show ∀ j, j < k + 1 → packableB (hs j) = true from fun j hj => by (by_cases e : j = k; subst e; exact h; exact HALL.out j (by omega)))
      generalize hs k = h at y0 y1 y2 y3 y4 y5 HNk HST
      cases hP : packableB h
      · have HR := Lib.hid (HNk.out hP)
        have HPF := Lib.hid hP
        clear hP HNk HST
        go_wp2_with (go_at_call 24; refine (refIn_any _ _ _ _).mono ?_; rintro e w' ⟨rfl, rfl⟩)
        all_goals first | (go_ret; exact ⟨ret_bool HR.out.symm, (hb.alloc hb.size _)⟩) | (exfalso; have := HPF.out; simp_all [packableB])
      · have HPT := Lib.hid hP
        simp only [packableB, Bool.and_eq_true] at hP
        obtain ⟨p1, p2, p3, p4, p5, p6⟩ := hP
        go_wp2_with (go_at_call 24; refine (refIn_any _ _ _ _).mono ?_; rintro e w' ⟨rfl, rfl⟩)
        go_roundw
        case rel => exact ⟨k + 1, by omega, by go_num, Lib.hid (HST.out HPT.out), hb.alloc hb.size _⟩
        case measure => simp [intOf]; omega
    · obtain rfl : m = k := by omega
      go_wp2
      go_ret
      exact ⟨ret_bool (HYes.out HALL.out).symm, hb⟩
set_option maxRecDepth 100000 in
set_option maxHeartbeats 1000000 in
theorem SameBytes_same (a b : Option Addr) (n c d : Nat) (f : Nat → Nat) (w : World) (B : Nat) (hBw : B ≤ w.heap.size) (hf : Bytes B w a n f) (hg : Bytes B w b n f) (hn : n ≤ maxLen) :
    Calls Try.prog 39 #[.slice a n c, .slice b n d] w fun e w' => e = .returned (.bool true) ∧ Below w.heap.size w w' := by
  unfold maxLen at hn
  have HFa := Lib.hid hf
  have HGa := Lib.hid hg
  clear hf hg
  go_enter Try.func39, Try.ntmps39
  go_wp2
  go_loopw [5] (fun t wr => ∃ k : Nat, k ≤ n ∧ t = .int .i64 (k : Int) ∧ Below w.heap.size w wr) (fun t _ => n - (intOf t).toNat)
  case atStart => exact ⟨0, Nat.zero_le _, rfl, Below.refl _ _⟩
  case round =>
    obtain ⟨k, hk, rfl, hb⟩ := hrel
    by_cases hlt : k < n
    · rcases HFa.out with e0 | ⟨b1, o1, rfl, hb1, hc1⟩
      · omega
      rcases HGa.out with e0 | ⟨b2, o2, rfl, hb2, hc2⟩
      · omega
      have c0 := hc1 k hlt
      have d0 := hc2 k hlt
      have l1 : b1 < w.heap.size := by omega
      have l2 : b2 < w.heap.size := by omega
      obtain ⟨hc, hf⟩ := bcell hb
      clear hc1 hc2
      go_wp2_with fail
      go_quiet (fail)
      go_wp2
      go_roundw
      case rel => exact ⟨k + 1, by omega, by go_num, below_drewN hb _⟩
      case measure => simp [intOf]; omega
    · go_wp2
      go_ret
      exact ⟨rfl, hb⟩
set_option maxRecDepth 100000 in
set_option maxHeartbeats 1000000 in
theorem SameHits_same (a b : Option Addr) (n c d : Nat) (f : Nat → HV) (w : World) (B : Nat) (hBw : B ≤ w.heap.size) (hf : Hits B w a n f) (hg : Hits B w b n f) :
    Calls Try.prog 42 #[.slice a n c, .slice b n d] w fun e w' => e = .returned (.bool true) ∧ Below w.heap.size w w' := by
  have hn := hf.1
  unfold maxLen at hn
  have HFa := Lib.hid hf
  have HGa := Lib.hid hg
  clear hf hg
  go_enter Try.func42, Try.ntmps42
  go_wp2
  go_loopw [5] (fun t wr => ∃ k : Nat, k ≤ n ∧ t = .int .i64 (k : Int) ∧ Below w.heap.size w wr) (fun t _ => n - (intOf t).toNat)
  case atStart => exact ⟨0, Nat.zero_le _, rfl, Below.refl _ _⟩
  case round =>
    obtain ⟨k, hk, rfl, hb⟩ := hrel
    by_cases hlt : k < n
    · obtain ⟨b1, o1, rfl, hb1, y0, y1, y2, y3, y4, y5⟩ := (HFa.out.below (hb.mono hBw)).get hlt
      obtain ⟨b2, o2, rfl, hb2, z0, z1, z2, z3, z4, z5⟩ := (HGa.out.below (hb.mono hBw)).get hlt
      have hz := hb.size
      have l1 : b1 < wr.heap.size := by omega
      have l2 : b2 < wr.heap.size := by omega
      generalize f k = h at *
      go_wp2_with fail
      go_quiet (fail)
      go_wp2
      go_roundw
      case rel => exact ⟨k + 1, by omega, by go_num, below_drewN hb _⟩
      case measure => simp [intOf]; omega
    · go_wp2
      go_ret
      exact ⟨rfl, hb⟩
theorem own_some {w : World} {base : Nat} {e : TypeId} {k : Nat} {a : Option Addr} {n m c : Nat} {xs : List Value} (h : w.ownsRow base e k (.slice a m c) n xs) (hn : 0 < n) : ∃ g, a = some ⟨g, 0, none⟩ ∧ base ≤ g ∧ g < w.heap.size ∧ n ≤ c ∧ c ≤ maxLen := by
  rcases h.2 with ⟨hv, hn'⟩ | ⟨g, cap, cur, hv, hb, hg, hnc, hcm, hcs, htake⟩
  · omega
  · injection hv with h1 h2 h3
    subst h3
    exact ⟨g, h1, hb, (Array.getElem?_eq_some_iff.1 hg).1, hnc, hcm⟩
theorem fileN_len {m : Nat} {hs : Nat → HV} (hm : m ≤ 30) (hp : packB m hs = true) : (fileN m hs).length ≤ 1000 ∧ 7 ≤ (fileN m hs).length := by
  have h1 := bodyN_len (allUpto_iff.1 hp) (show m ≤ 2000 by omega) (Nat.le_refl m)
  have h2 := (grp_len 4 m (by have : (128 : Nat) ^ (4 + 1) = 34359738368 := (by decide); omega)).1
  have h3 : 5 ≤ (bodyN m hs m).length := by simp [bodyN]; omega
  simp only [fileN, List.length_append, List.length_cons, List.length_nil]
  omega
theorem fileN_byte {m : Nat} {hs : Nat → HV} : ∀ x ∈ fileN m hs, x < 256 := by
  intro x hx
  have hc : chkL (bodyN m hs m) < 65521 := chkN_lt _ _
  simp only [fileN, List.mem_append, List.mem_cons, List.not_mem_nil, or_false] at hx
  rcases hx with h | h | h
  · exact bodyN_byte x h
  · omega
  · omega
end Go.Proofs.Ytgcepjminlapiaa
