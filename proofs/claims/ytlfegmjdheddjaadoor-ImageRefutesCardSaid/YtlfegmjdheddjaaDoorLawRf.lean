/- The walk of the statement ImageRefutes. -/
import Derived.Test.YtlfegmjdheddjaaDoorGrA
import Derived.Test.YtlfegmjdheddjaaDoorRefAl
import Derived.Test.YtlfegmjdheddjaaDoorGxA
namespace Go.Proofs.YtlfegmjdheddjaaDoor
open Go.RowKit
set_option linter.unusedVariables false
set_option linter.unusedSimpArgs false
/-- what the calls need of the image -/
structure RfIn (a : Option Addr) (n c : Nat) (ba : Option Addr) (m bc : Nat) (ss : Nat → SV) (bs : Nat → BM) (w : World) : Prop where
  im : ImIn w.heap.size a n c ba m bc ss bs w
  cap : n ≤ c ∧ c ≤ maxLen
section
variable {a : Option Addr} {n c : Nat} {ba : Option Addr} {m bc : Nat} {ss : Nat → SV} {bs : Nat → BM} {w W : World}
theorem RfIn.small (h : RfIn a n c ba m bc ss bs w) (hb : Below w.heap.size w W) : Calls Tryd.prog 10 #[imageV a n c ba m bc, .int .i64 3000] W fun e w' => e = .returned (.bool (smallB n ss m bs 3000)) ∧ Below W.heap.size W w' := small_any a n c ba m bc ss bs 3000 W _ (h.im.B' hb) (h.im.S hb) (h.im.M hb)
theorem RfIn.check (h : RfIn a n c ba m bc ss bs w) (hb : Below w.heap.size w W) : Calls Tryd.prog 13 #[imageV a n c ba m bc] W fun e w' => e = .returned (.int .i64 (checkN n ss m bs)) ∧ Below W.heap.size W w' := r8Check_any a n c ba m bc ss bs W _ (h.im.B' hb) (h.im.S hb) (h.im.M hb)
theorem RfIn.refuteC (h : RfIn a n c ba m bc ss bs w) (hC : checkN n ss m bs ≠ 0) (hb : Below w.heap.size w W) : Calls Tryd.prog 12 #[imageV a n c ba m bc] W fun e w' => e = .returned (.tuple #[.slice none 0 0, .int .i64 (checkN n ss m bs)]) ∧ Below W.heap.size W w' :=
  (Refute_any a n c ba m bc ss bs h.cap W _ (h.im.B' hb) (h.im.S hb) (h.im.M hb)).mono fun e w' h => by
    have h2 := h.2
    rw [if_neg hC] at h2
    exact ⟨h2, h.1⟩
theorem RfIn.refute1 (h : RfIn a n c ba m bc ss bs w) (hC : checkN n ss m bs = 0) (hA : allF n ss m bs ≠ []) (hb : Below w.heap.size w W) : Calls Tryd.prog 12 #[imageV a n c ba m bc] W fun e w' => e = .returned (.tuple #[.slice none 0 0, .int .i64 6]) ∧ Below W.heap.size W w' :=
  (Refute_any a n c ba m bc ss bs h.cap W _ (h.im.B' hb) (h.im.S hb) (h.im.M hb)).mono fun e w' h => by
    have h2 := h.2
    rw [if_pos hC] at h2
    revert h2
    cases hl : allF n ss m bs with
    | nil => exact absurd hl hA
    | cons g t => exact fun h2 => ⟨h2, h.1⟩
theorem RfIn.refute3 (h : RfIn a n c ba m bc ss bs w) (hC : checkN n ss m bs = 0) (hA : allF n ss m bs = []) (hP : ¬ (prfF n ss m bs).length ≤ 4000) (hb : Below w.heap.size w W) : Calls Tryd.prog 12 #[imageV a n c ba m bc] W fun e w' => e = .returned (.tuple #[.slice none 0 0, .int .i64 3]) ∧ Below W.heap.size W w' :=
  (Refute_any a n c ba m bc ss bs h.cap W _ (h.im.B' hb) (h.im.S hb) (h.im.M hb)).mono fun e w' h => by
    have h2 := h.2
    rw [if_pos hC, hA] at h2
    dsimp only at h2
    rw [if_neg hP] at h2
    exact ⟨h2, h.1⟩
/-- a row of nodes whose values are known -/
def Prf (w : World) (pa : Option Addr) (q : Nat) (ps : Nat → NM) (l : List NV) : Prop := Nodes w.heap.size w pa q ps ∧ ∃ L : List NM, L.length = q ∧ ps = nodesL L ∧ L.map NM.nv = l
theorem Prf.step {w w' : World} {pa : Option Addr} {q : Nat} {ps : Nat → NM} {l : List NV} (h : Prf w pa q ps l) (hb : Below w.heap.size w w') : Prf w' pa q ps l := ⟨(h.1.below hb).up hb.size, h.2⟩
theorem Prf.len {w : World} {pa : Option Addr} {q : Nat} {ps : Nat → NM} {l : List NV} (h : Prf w pa q ps l) : q = l.length := by
  obtain ⟨_, L, rfl, _, rfl⟩ := h
  rw [List.length_map]
theorem RfIn.refute0 (h : RfIn a n c ba m bc ss bs w) (hC : checkN n ss m bs = 0) (hA : allF n ss m bs = []) (hP : (prfF n ss m bs).length ≤ 4000) (hb : Below w.heap.size w W) : Calls Tryd.prog 12 #[imageV a n c ba m bc] W fun e w' => (∃ pa q pc ps, e = .returned (.tuple #[.slice pa q pc, .int .i64 0]) ∧ Prf w' pa q ps (prfF n ss m bs)) ∧ Below W.heap.size W w' :=
  (Refute_any a n c ba m bc ss bs h.cap W _ (h.im.B' hb) (h.im.S hb) (h.im.M hb)).mono fun e w' h => by
    have h2 := h.2
    rw [if_pos hC, hA] at h2
    dsimp only at h2
    rw [if_pos hP] at h2
    obtain ⟨pa, pc, L, ob, he, hO, hL⟩ := h2
    have hm := (checkN_shape hC).m20
    exact ⟨⟨pa, L.length, pc, nodesL L, he, outAt_nodes hO (by unfold maxLen; omega), L, rfl, rfl, hL⟩, h.1⟩
theorem RfIn.halves (h : RfIn a n c ba m bc ss bs w) (hC : checkN n ss m bs = 0) (hA : allF n ss m bs = []) (hb : Below w.heap.size w W) : Calls Tryd.prog 15 #[imageV a n c ba m bc, .slice a n c, .slice none 0 0] W fun e w' => (∃ xa q xc xs, e = .returned (.slice xa q xc) ∧ Prf w' xa q xs (hlv n m bs ((sizeN ss n).toNat + 1) ss 0)) ∧ Below W.heap.size W w' :=
  (Halves_any a n c ba m bc ss bs W _ (h.im.B' hb) (h.im.S hb) (h.im.M hb) (checkN_shape hC) hA).mono fun e w' h => by
    obtain ⟨⟨xa, L, xc, rfl, hN, hL⟩, hb⟩ := h
    exact ⟨⟨xa, L.length, xc, nodesL L, rfl, hN, L, rfl, rfl, hL⟩, hb⟩
theorem same_prf {l : List NV} {pa xa : Option Addr} {q pc xc : Nat} {ps xs : Nat → NM} (hq : q ≤ 4000) (h1 : Prf W pa q ps l) (h2 : Prf W xa q xs l) : Calls Tryd.prog 16 #[.slice pa q pc, .slice xa q xc] W fun e w' => e = .returned (.bool true) ∧ Below W.heap.size W w' := by
  obtain ⟨hN, L, rfl, rfl, hl⟩ := h1
  obtain ⟨hN2, L2, hl2, rfl, rfl⟩ := h2
  exact sameProof_any pa pc xa xc L.length (nodesL L) (nodesL L2) (by omega) W hN hN2 (nv_eq hl).2
theorem RfIn.all (h : RfIn a n c ba m bc ss bs w) (hC : checkN n ss m bs = 0) (hb : Below w.heap.size w W) : Calls Tryd.prog 14 #[imageV a n c ba m bc] W fun e w' => (∃ la lc, e = .returned (.slice la (allF n ss m bs).length lc)) ∧ Below W.heap.size W w' := by
  have hSh := checkN_shape hC
  have hall : (allF n ss m bs).length ≤ 200000 := by
    have h1 : longB n ss 200000 = false := by
      cases e : longB n ss 200000
      · rfl
      · unfold checkN at hC
        rw [if_neg (by rw [shapeB_iff.2 hSh]; decide), if_pos e] at hC
        cases hC
    have := allF_le hSh h1
    omega
  refine (r8All_any a n c ba m bc ss bs W _ (h.im.B' hb) (h.im.S hb) (h.im.M hb) hSh (by omega)).mono fun e w' h => ?_
  obtain ⟨⟨la, lc, he, _⟩, hb⟩ := h
  exact ⟨⟨la, lc, he⟩, hb⟩
end
set_option maxRecDepth 100000 in
set_option maxHeartbeats 4000000 in
theorem ImageRefutes_any (a : Option Addr) (n c : Nat) (ba : Option Addr) (m bc : Nat) (ss : Nat → SV) (bs : Nat → BM) (w : World) (B : Nat) (hBw : B ≤ w.heap.size) (hS : Spans B w a n ss) (hM : Beams B w ba m bs) (hnc : n ≤ c) (hcm : c ≤ maxLen) (ht : Lib.TabIs Tryd.prog w "internal/strconv.uint64pow10" .u64 Lib.pow10Tab) :
    Calls Tryd.prog 3 #[imageV a n c ba m bc] w fun e w' => e = .returned (.bool true) ∧ Below w.heap.size w w' := by
  have h : RfIn a n c ba m bc ss bs w := ⟨⟨Nat.le_refl _, hS.up hBw, hM.up hBw, Lib.tabBelow_of_tabIs ht⟩, hnc, hcm⟩
  have HKN := Lib.hid (fun (W : World) (hb : Below w.heap.size w W) => h.im.known hb)
  have HSM := Lib.hid (fun (W : World) (hb : Below w.heap.size w W) => h.small hb)
  have HCH := Lib.hid (fun (W : World) (hb : Below w.heap.size w W) => h.check hb)
  clear hS hM ht
  cases h1 : smallB n ss m bs 3000
  · rw [h1] at HSM
    clear h
    go_enter Tryd.func3, Tryd.ntmps3; go_upto_region 1 with (fail); have HL := Lib.hid (show LI a n c ba m bc w (w.alloc (.cells #[.slice a n c, .slice ba m bc] 25)) from LI_start); generalize World.alloc w _ = V at *; obtain ⟨l0, l1, l2, l3⟩ := HL.out
    go_wp2_with (first | (go_at_call 10; refine (HSM.out _ l3).mono ?_; rintro e w2 ⟨rfl, hb2⟩; have HLx := Lib.hid (LI_step HL.out hb2); clear HL hb2; have HL := HLx; clear HLx; (try clear l0 l1 l2 l3); obtain ⟨l0, l1, l2, l3⟩ := HL.out) | (go_at_call 11; refine (HKN.out _ l3).mono ?_; rintro e w9 ⟨rfl, hb9⟩; have HLx := Lib.hid (LI_step HL.out hb9); clear HL hb9; have HL := HLx; clear HLx; (try clear l0 l1 l2 l3); obtain ⟨l0, l1, l2, l3⟩ := HL.out))
    go_ret
    exact ⟨rfl, l3⟩
  · rw [h1] at HSM
    by_cases hC : checkN n ss m bs = 0
    · have HAL := Lib.hid (fun (W : World) (hb : Below w.heap.size w W) => h.all hC hb)
      rw [hC] at HCH
      by_cases hA : allF n ss m bs = []
      · rw [hA] at HAL
        have HHA := Lib.hid (fun (W : World) (hb : Below w.heap.size w W) => h.halves hC hA hb)
        obtain ⟨g1, g2⟩ := hlv_prf (checkN_shape hC) _ ss 0 (halved_all (checkN_shape hC) hA)
        rw [Nat.zero_add] at g1 g2
        by_cases hP : (prfF n ss m bs).length ≤ 4000
        · have HRE := Lib.hid (fun (W : World) (hb : Below w.heap.size w W) => h.refute0 hC hA hP hb)
          have e1 : hlv n m bs ((sizeN ss n).toNat + 1) ss 0 = prfF n ss m bs := g1 hP
          rw [e1] at HHA
          obtain ⟨Q, hQ⟩ : ∃ Q, (prfF n ss m bs).length = Q := ⟨_, rfl⟩
          rw [hQ] at hP
          have hq4 := hP
          have HPQ := Lib.hid hQ
          have hlt : ¬ (4000 : Int) < (Q : Int) := by omega
          have hne : ((Q : Int) != (Q : Int)) = false := by simp
          clear h g1 g2 hC hA e1 hP hQ
          generalize prfF n ss m bs = l at *
          go_enter Tryd.func3, Tryd.ntmps3; go_upto_region 1 with (fail); have HL := Lib.hid (show LI a n c ba m bc w (w.alloc (.cells #[.slice a n c, .slice ba m bc] 25)) from LI_start); generalize World.alloc w _ = V at *; obtain ⟨l0, l1, l2, l3⟩ := HL.out
          go_wp2_with (first | (go_at_call 10; refine (HSM.out _ l3).mono ?_; rintro e w2 ⟨rfl, hb2⟩; have HLx := Lib.hid (LI_step HL.out hb2); clear HL hb2; have HL := HLx; clear HLx; (try clear l0 l1 l2 l3); obtain ⟨l0, l1, l2, l3⟩ := HL.out) | (go_at_call 12; refine (HRE.out _ l3).mono ?_; rintro e wb ⟨⟨pa, q, pc, ps, rfl, hNP⟩, hbb⟩; obtain rfl := hNP.len.trans HPQ.out; have HP := Lib.hid hNP; clear hNP; have HLx := Lib.hid (LI_step HL.out hbb); clear HL hbb; have HL := HLx; clear HLx; (try clear l0 l1 l2 l3); obtain ⟨l0, l1, l2, l3⟩ := HL.out) | (go_at_call 13; refine (HCH.out _ l3).mono ?_; rintro e w4 ⟨rfl, hb4⟩; have HPx := Lib.hid (HP.out.step hb4); clear HP; have HP := HPx; clear HPx; have HLx := Lib.hid (LI_step HL.out hb4); clear HL hb4; have HL := HLx; clear HLx; (try clear l0 l1 l2 l3); obtain ⟨l0, l1, l2, l3⟩ := HL.out) | (go_at_call 14; refine (HAL.out _ l3).mono ?_; rintro e w5 ⟨⟨la, lc, rfl⟩, hb5⟩; have HPx := Lib.hid (HP.out.step hb5); clear HP; have HP := HPx; clear HPx; have HLx := Lib.hid (LI_step HL.out hb5); clear HL hb5; have HL := HLx; clear HLx; (try clear l0 l1 l2 l3); obtain ⟨l0, l1, l2, l3⟩ := HL.out) | (go_at_call 15; refine (HHA.out _ l3).mono ?_; rintro e w6 ⟨⟨xa, q6, xc, xs, rfl, hNX⟩, hb6⟩; obtain rfl := hNX.len.trans HPQ.out; have HPx := Lib.hid (HP.out.step hb6); clear HP; have HP := HPx; clear HPx; have HX := Lib.hid hNX; clear hNX; have HLx := Lib.hid (LI_step HL.out hb6); clear HL hb6; have HL := HLx; clear HLx; (try clear l0 l1 l2 l3); obtain ⟨l0, l1, l2, l3⟩ := HL.out) | (go_at_call 16; refine (same_prf hq4 HP.out HX.out).mono ?_; rintro e w7 ⟨rfl, hb7⟩; have HLx := Lib.hid (LI_step HL.out hb7); clear HL hb7; have HL := HLx; clear HLx; (try clear l0 l1 l2 l3); obtain ⟨l0, l1, l2, l3⟩ := HL.out) | (go_at_call 11; refine (HKN.out _ l3).mono ?_; rintro e w9 ⟨rfl, hb9⟩; have HLx := Lib.hid (LI_step HL.out hb9); clear HL hb9; have HL := HLx; clear HLx; (try clear l0 l1 l2 l3); obtain ⟨l0, l1, l2, l3⟩ := HL.out))
          go_ret
          exact ⟨rfl, l3⟩
        · have HRE := Lib.hid (fun (W : World) (hb : Below w.heap.size w W) => h.refute3 hC hA hP hb)
          have e1 : 4000 < (hlv n m bs ((sizeN ss n).toNat + 1) ss 0).length := by
            have := g2 (Nat.lt_of_not_le hP)
            omega
          generalize hlv n m bs ((sizeN ss n).toNat + 1) ss 0 = l at *
          obtain ⟨Q, hQ⟩ : ∃ Q, l.length = Q := ⟨_, rfl⟩
          rw [hQ] at e1
          have HHQ := Lib.hid hQ
          have hlt : (4000 : Int) < (Q : Int) := by omega
          clear h g1 g2 hC hA e1 hP hQ
          go_enter Tryd.func3, Tryd.ntmps3; go_upto_region 1 with (fail); have HL := Lib.hid (show LI a n c ba m bc w (w.alloc (.cells #[.slice a n c, .slice ba m bc] 25)) from LI_start); generalize World.alloc w _ = V at *; obtain ⟨l0, l1, l2, l3⟩ := HL.out
          go_wp2_with (first | (go_at_call 10; refine (HSM.out _ l3).mono ?_; rintro e w2 ⟨rfl, hb2⟩; have HLx := Lib.hid (LI_step HL.out hb2); clear HL hb2; have HL := HLx; clear HLx; (try clear l0 l1 l2 l3); obtain ⟨l0, l1, l2, l3⟩ := HL.out) | (go_at_call 12; refine (HRE.out _ l3).mono ?_; rintro e wb ⟨rfl, hbb⟩; have HLx := Lib.hid (LI_step HL.out hbb); clear HL hbb; have HL := HLx; clear HLx; (try clear l0 l1 l2 l3); obtain ⟨l0, l1, l2, l3⟩ := HL.out) | (go_at_call 13; refine (HCH.out _ l3).mono ?_; rintro e w4 ⟨rfl, hb4⟩; have HLx := Lib.hid (LI_step HL.out hb4); clear HL hb4; have HL := HLx; clear HLx; (try clear l0 l1 l2 l3); obtain ⟨l0, l1, l2, l3⟩ := HL.out) | (go_at_call 14; refine (HAL.out _ l3).mono ?_; rintro e w5 ⟨⟨la, lc, rfl⟩, hb5⟩; have HLx := Lib.hid (LI_step HL.out hb5); clear HL hb5; have HL := HLx; clear HLx; (try clear l0 l1 l2 l3); obtain ⟨l0, l1, l2, l3⟩ := HL.out) | (go_at_call 15; refine (HHA.out _ l3).mono ?_; rintro e w6 ⟨⟨xa, q6, xc, xs, rfl, hNX⟩, hb6⟩; obtain rfl := hNX.len.trans HHQ.out; clear hNX; have HLx := Lib.hid (LI_step HL.out hb6); clear HL hb6; have HL := HLx; clear HLx; (try clear l0 l1 l2 l3); obtain ⟨l0, l1, l2, l3⟩ := HL.out) | (go_at_call 11; refine (HKN.out _ l3).mono ?_; rintro e w9 ⟨rfl, hb9⟩; have HLx := Lib.hid (LI_step HL.out hb9); clear HL hb9; have HL := HLx; clear HLx; (try clear l0 l1 l2 l3); obtain ⟨l0, l1, l2, l3⟩ := HL.out))
          go_ret
          exact ⟨rfl, l3⟩
      · have HRE := Lib.hid (fun (W : World) (hb : Below w.heap.size w W) => h.refute1 hC hA hb)
        have hpos : 0 < (allF n ss m bs).length := List.length_pos_iff.2 hA
        generalize (allF n ss m bs).length = N at *
        have h0N : (0 : Int) < (N : Int) := by omega
        clear h hC hA hpos
        go_enter Tryd.func3, Tryd.ntmps3; go_upto_region 1 with (fail); have HL := Lib.hid (show LI a n c ba m bc w (w.alloc (.cells #[.slice a n c, .slice ba m bc] 25)) from LI_start); generalize World.alloc w _ = V at *; obtain ⟨l0, l1, l2, l3⟩ := HL.out
        go_wp2_with (first | (go_at_call 10; refine (HSM.out _ l3).mono ?_; rintro e w2 ⟨rfl, hb2⟩; have HLx := Lib.hid (LI_step HL.out hb2); clear HL hb2; have HL := HLx; clear HLx; (try clear l0 l1 l2 l3); obtain ⟨l0, l1, l2, l3⟩ := HL.out) | (go_at_call 12; refine (HRE.out _ l3).mono ?_; rintro e wb ⟨rfl, hbb⟩; have HLx := Lib.hid (LI_step HL.out hbb); clear HL hbb; have HL := HLx; clear HLx; (try clear l0 l1 l2 l3); obtain ⟨l0, l1, l2, l3⟩ := HL.out) | (go_at_call 13; refine (HCH.out _ l3).mono ?_; rintro e w4 ⟨rfl, hb4⟩; have HLx := Lib.hid (LI_step HL.out hb4); clear HL hb4; have HL := HLx; clear HLx; (try clear l0 l1 l2 l3); obtain ⟨l0, l1, l2, l3⟩ := HL.out) | (go_at_call 14; refine (HAL.out _ l3).mono ?_; rintro e w5 ⟨⟨la, lc, rfl⟩, hb5⟩; have HLx := Lib.hid (LI_step HL.out hb5); clear HL hb5; have HL := HLx; clear HLx; (try clear l0 l1 l2 l3); obtain ⟨l0, l1, l2, l3⟩ := HL.out) | (go_at_call 11; refine (HKN.out _ l3).mono ?_; rintro e w9 ⟨rfl, hb9⟩; have HLx := Lib.hid (LI_step HL.out hb9); clear HL hb9; have HL := HLx; clear HLx; (try clear l0 l1 l2 l3); obtain ⟨l0, l1, l2, l3⟩ := HL.out))
        go_ret
        exact ⟨rfl, l3⟩
    · have HRE := Lib.hid (fun (W : World) (hb : Below w.heap.size w W) => h.refuteC hC hb)
      have hne : (checkN n ss m bs == 0) = false := by rw [beq_eq_false_iff_ne]; exact hC
      clear h hC
      generalize checkN n ss m bs = E at *
      have hne2 : (E != 0) = true := by rw [bne, hne]; rfl
      go_enter Tryd.func3, Tryd.ntmps3; go_upto_region 1 with (fail); have HL := Lib.hid (show LI a n c ba m bc w (w.alloc (.cells #[.slice a n c, .slice ba m bc] 25)) from LI_start); generalize World.alloc w _ = V at *; obtain ⟨l0, l1, l2, l3⟩ := HL.out
      go_wp2_with (first | (go_at_call 10; refine (HSM.out _ l3).mono ?_; rintro e w2 ⟨rfl, hb2⟩; have HLx := Lib.hid (LI_step HL.out hb2); clear HL hb2; have HL := HLx; clear HLx; (try clear l0 l1 l2 l3); obtain ⟨l0, l1, l2, l3⟩ := HL.out) | (go_at_call 12; refine (HRE.out _ l3).mono ?_; rintro e wb ⟨rfl, hbb⟩; have HLx := Lib.hid (LI_step HL.out hbb); clear HL hbb; have HL := HLx; clear HLx; (try clear l0 l1 l2 l3); obtain ⟨l0, l1, l2, l3⟩ := HL.out) | (go_at_call 13; refine (HCH.out _ l3).mono ?_; rintro e w4 ⟨rfl, hb4⟩; have HLx := Lib.hid (LI_step HL.out hb4); clear HL hb4; have HL := HLx; clear HLx; (try clear l0 l1 l2 l3); obtain ⟨l0, l1, l2, l3⟩ := HL.out) | (go_at_call 11; refine (HKN.out _ l3).mono ?_; rintro e w9 ⟨rfl, hb9⟩; have HLx := Lib.hid (LI_step HL.out hb9); clear HL hb9; have HL := HLx; clear HLx; (try clear l0 l1 l2 l3); obtain ⟨l0, l1, l2, l3⟩ := HL.out))
      go_ret
      exact ⟨rfl, l3⟩
end Go.Proofs.YtlfegmjdheddjaaDoor
