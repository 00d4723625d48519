/- The walks of the reference's SameBeam and SameImage, for lists that are equal. -/
import Derived.Test.YtnfigielhnnpnaaDoorGqA
import Derived.Test.YtnfigielhnnpnaaDoorGaA
namespace Go.Proofs.YtnfigielhnnpnaaDoor
open Go.RowKit
set_option linter.unusedVariables false
set_option linter.unusedSimpArgs false
/-- two beams hold the same -/
structure BmEq (p q : BM) : Prop where
  cn : p.cn = q.cn
  wn : p.wn = q.wn
  lo : p.lo = q.lo
  hi : p.hi = q.hi
  cs : ∀ i, i < p.cn → p.cs i = q.cs i
  ws : ∀ i, i < p.wn → p.ws i = q.ws i
set_option maxRecDepth 100000 in
set_option maxHeartbeats 2000000 in
theorem r8SameBeam_eq (p q : BM) (w : World) (hp : p.mem w.heap.size w) (hq : q.mem w.heap.size w) (he : BmEq p q) :
    Calls Tryd.prog 34 #[p.val, q.val] w fun e w' => e = .returned (.bool true) ∧ Below w.heap.size w w' := by
  obtain ⟨pca, pcn, pcc, pwa, pwn, pwc, plo, phi, pcs, pws⟩ := p
  obtain ⟨qca, qcn, qcc, qwa, qwn, qwc, qlo, qhi, qcs, qws⟩ := q
  obtain ⟨e1, e2, e3, e4, e5, e6⟩ := he
  obtain ⟨p1, p2, p3, p4⟩ := hp
  obtain ⟨q1, q2, q3, q4⟩ := hq
  dsimp only at e1 e2 e3 e4 e5 e6 p1 p2 p3 p4 q1 q2 q3 q4
  subst e1 e2 e3 e4
  have HS1 := Lib.hid (fun (W : World) (hb : Below w.heap.size w W) => show Calls Tryd.prog 25 #[.slice pca pcn pcc, .slice qca pcn qcc] W (fun e w' => e = .returned (.bool true) ∧ Below W.heap.size W w') from by
    have h := Same_any pca qca pcn pcn pcc qcc pcs qcs W w.heap.size hb.size (p3.below hb) (q3.below hb) p1 p1
    rw [sameB_iff.2 ⟨rfl, e5⟩] at h
    exact h)
  have HS2 := Lib.hid (fun (W : World) (hb : Below w.heap.size w W) => show Calls Tryd.prog 25 #[.slice pwa pwn pwc, .slice qwa pwn qwc] W (fun e w' => e = .returned (.bool true) ∧ Below W.heap.size W w') from by
    have h := Same_any pwa qwa pwn pwn pwc qwc pws qws W w.heap.size hb.size (p4.below hb) (q4.below hb) p2 p2
    rw [sameB_iff.2 ⟨rfl, e6⟩] at h
    exact h)
  have m1 : True := trivial
  unfold BM.val
  dsimp only
  clear p1 p2 p3 p4 q1 q2 q3 q4 e5 e6
  go_enter Tryd.func34, Tryd.ntmps34
  go_upto_region 1 with (fail)
  obtain ⟨hVb, hVz, e1, e2⟩ := two_allocs w (.cells #[.slice pca pcn pcc, .slice pwa pwn pwc, .int .i64 plo, .int .i64 phi] 57) (.cells #[.slice qca pcn qcc, .slice qwa pwn qwc, .int .i64 plo, .int .i64 phi] 57)
  generalize World.alloc (World.alloc w _) _ = V at *
  have k0 : V.cell? ⟨w.heap.size, 0, none⟩ = some (.slice pca pcn pcc) := cell_of_row _ _ _ _ _ _ e1
  have k1 : V.cell? ⟨w.heap.size, 1, none⟩ = some (.slice pwa pwn pwc) := cell_of_row _ _ _ _ _ _ e1
  have k2 : V.cell? ⟨w.heap.size, 2, none⟩ = some (.int .i64 plo) := cell_of_row _ _ _ _ _ _ e1
  have k3 : V.cell? ⟨w.heap.size, 3, none⟩ = some (.int .i64 phi) := cell_of_row _ _ _ _ _ _ e1
  have j0 : V.cell? ⟨w.heap.size + 1, 0, none⟩ = some (.slice qca pcn qcc) := cell_of_row _ _ _ _ _ _ e2
  have j1 : V.cell? ⟨w.heap.size + 1, 1, none⟩ = some (.slice qwa pwn qwc) := cell_of_row _ _ _ _ _ _ e2
  have j2 : V.cell? ⟨w.heap.size + 1, 2, none⟩ = some (.int .i64 plo) := cell_of_row _ _ _ _ _ _ e2
  have j3 : V.cell? ⟨w.heap.size + 1, 3, none⟩ = some (.int .i64 phi) := cell_of_row _ _ _ _ _ _ e2
  have hz0 : w.heap.size < V.heap.size := by omega
  have hz1 : w.heap.size + 1 < V.heap.size := by omega
  have HB := Lib.hid hVb
  clear hVb hVz e1 e2
  go_wp2_with (first | (go_at_call 25; have _ := m1; clear m1; refine (HS1.out _ HB.out).mono ?_; rintro e w2 ⟨rfl, hb2⟩; have HBx := Lib.hid (HB.out.trans ((hb2).mono HB.out.size)); have k0x := ((bcell hb2).1 _ _ hz0).trans k0; have k1x := ((bcell hb2).1 _ _ hz0).trans k1; have k2x := ((bcell hb2).1 _ _ hz0).trans k2; have k3x := ((bcell hb2).1 _ _ hz0).trans k3; have j0x := ((bcell hb2).1 _ _ hz1).trans j0; have j1x := ((bcell hb2).1 _ _ hz1).trans j1; have j2x := ((bcell hb2).1 _ _ hz1).trans j2; have j3x := ((bcell hb2).1 _ _ hz1).trans j3; have hz0x := Nat.lt_of_lt_of_le hz0 (hb2).size; have hz1x := Nat.lt_of_lt_of_le hz1 (hb2).size; clear HB k0 k1 k2 k3 j0 j1 j2 j3 hz0 hz1; have HB := HBx; have k0 := k0x; have k1 := k1x; have k2 := k2x; have k3 := k3x; have j0 := j0x; have j1 := j1x; have j2 := j2x; have j3 := j3x; have hz0 := hz0x; have hz1 := hz1x; clear HBx k0x k1x k2x k3x j0x j1x j2x j3x hz0x hz1x; clear hb2) | (go_at_call 25; refine (HS2.out _ HB.out).mono ?_; rintro e w3 ⟨rfl, hb3⟩; have HBx := Lib.hid (HB.out.trans ((hb3).mono HB.out.size)); have k0x := ((bcell hb3).1 _ _ hz0).trans k0; have k1x := ((bcell hb3).1 _ _ hz0).trans k1; have k2x := ((bcell hb3).1 _ _ hz0).trans k2; have k3x := ((bcell hb3).1 _ _ hz0).trans k3; have j0x := ((bcell hb3).1 _ _ hz1).trans j0; have j1x := ((bcell hb3).1 _ _ hz1).trans j1; have j2x := ((bcell hb3).1 _ _ hz1).trans j2; have j3x := ((bcell hb3).1 _ _ hz1).trans j3; have hz0x := Nat.lt_of_lt_of_le hz0 (hb3).size; have hz1x := Nat.lt_of_lt_of_le hz1 (hb3).size; clear HB k0 k1 k2 k3 j0 j1 j2 j3 hz0 hz1; have HB := HBx; have k0 := k0x; have k1 := k1x; have k2 := k2x; have k3 := k3x; have j0 := j0x; have j1 := j1x; have j2 := j2x; have j3 := j3x; have hz0 := hz0x; have hz1 := hz1x; clear HBx k0x k1x k2x k3x j0x j1x j2x j3x hz0x hz1x; clear hb3))
  go_ret
  exact ⟨rfl, HB.out⟩
/-- two images hold the same -/
structure ImEq (n : Nat) (ss ss' : Nat → SV) (m : Nat) (bs bs' : Nat → BM) : Prop where
  ss : ∀ i, i < n → (ss i).lo = (ss' i).lo ∧ (ss i).hi = (ss' i).hi
  bs : ∀ i, i < m → BmEq (bs i) (bs' i)
set_option maxRecDepth 100000 in
set_option maxHeartbeats 2000000 in
theorem r8SameImage_eq (a : Option Addr) (n c : Nat) (ba : Option Addr) (m bc : Nat) (ss : Nat → SV) (bs : Nat → BM) (a' : Option Addr) (c' : Nat) (ba' : Option Addr) (bc' : Nat) (ss' : Nat → SV) (bs' : Nat → BM) (w : World) (hS : Spans w.heap.size w a n ss) (hM : Beams w.heap.size w ba m bs) (hS' : Spans w.heap.size w a' n ss') (hM' : Beams w.heap.size w ba' m bs') (he : ImEq n ss ss' m bs bs') :
    Calls Tryd.prog 11 #[imageV a n c ba m bc, imageV a' n c' ba' m bc'] w fun e w' => e = .returned (.bool true) ∧ Below w.heap.size w w' := by
  have hm := hM.1
  unfold maxLen at hm
  have HSS := Lib.hid (fun (W : World) (hb : Below w.heap.size w W) => show Calls Tryd.prog 16 #[.slice a n c, .slice a' n c'] W (fun e w' => e = .returned (.bool true) ∧ Below W.heap.size W w') from by
    have h := SameSpans_any a a' n n c c' ss ss' W w.heap.size hb.size (hS.below hb) (hS'.below hb)
    rw [sameSB_iff.2 ⟨rfl, he.ss⟩] at h
    exact h)
  have HSB := Lib.hid (fun (i : Nat) (hi : i < m) (W : World) (hb : Below w.heap.size w W) => by
    obtain ⟨_, _, _, _, _, h1⟩ := (hM.below hb).get hi
    obtain ⟨_, _, _, _, _, h2⟩ := (hM'.below hb).get hi
    exact r8SameBeam_eq (bs i) (bs' i) W (h1.up hb.size) (h2.up hb.size) (he.bs i hi))
  have HM := Lib.hid hM
  have HM' := Lib.hid hM'
  clear hS hS' hM hM' he
  go_enter Tryd.func11, Tryd.ntmps11
  go_upto_region 1 with (fail)
  obtain ⟨hVb, hVz, e1, e2⟩ := two_allocs w (.cells #[.slice a n c, .slice ba m bc] 28) (.cells #[.slice a' n c', .slice ba' m bc'] 28)
  generalize World.alloc (World.alloc w _) _ = V at *
  have k0 : V.cell? ⟨w.heap.size, 0, none⟩ = some (.slice a n c) := cell_of_row _ _ _ _ _ _ e1
  have k1 : V.cell? ⟨w.heap.size, 1, none⟩ = some (.slice ba m bc) := cell_of_row _ _ _ _ _ _ e1
  have j0 : V.cell? ⟨w.heap.size + 1, 0, none⟩ = some (.slice a' n c') := cell_of_row _ _ _ _ _ _ e2
  have j1 : V.cell? ⟨w.heap.size + 1, 1, none⟩ = some (.slice ba' m bc') := cell_of_row _ _ _ _ _ _ e2
  have hz0 : w.heap.size < V.heap.size := by omega
  have hz1 : w.heap.size + 1 < V.heap.size := by omega
  have HB := Lib.hid hVb
  clear hVb hVz e1 e2
  go_upto_region 3 with (go_at_call 16; refine (HSS.out _ HB.out).mono ?_; rintro e w2 ⟨rfl, hb2⟩; have HB2 := Lib.hid (HB.out.trans (hb2.mono HB.out.size)); have k1x := ((bcell hb2).1 _ _ hz0).trans k1; have j1x := ((bcell hb2).1 _ _ hz1).trans j1; have hz0x := Nat.lt_of_lt_of_le hz0 hb2.size; have hz1x := Nat.lt_of_lt_of_le hz1 hb2.size; clear k1 j1 hz0 hz1 hb2)
  have HK1 := Lib.hid k1x
  have HJ1 := Lib.hid j1x
  clear k1x j1x HB k0 j0
  go_wp2
  go_loopw [5] (fun t wr => ∃ i : Nat, i ≤ m ∧ t = .int .i64 (i : Int) ∧ Hid (Below w2.heap.size w2 wr)) (fun t _ => m - (intOf t).toNat)
  case atStart => exact ⟨0, Nat.zero_le _, rfl, Lib.hid (Below.refl _ _)⟩
  case round =>
    obtain ⟨i, hi, rfl, HX⟩ := hrel
    have k1 := ((bcell HX.out).1 _ _ hz0x).trans HK1.out
    have j1 := ((bcell HX.out).1 _ _ hz1x).trans HJ1.out
    have hz0 := Nat.lt_of_lt_of_le hz0x HX.out.size
    have hz1 := Nat.lt_of_lt_of_le hz1x HX.out.size
    by_cases hlt : i < m
    · have hlt' : (i : Int) < (m : Int) := by omega
      have HBX := Lib.hid (HB2.out.trans (HX.out.mono HB2.out.size))
      obtain ⟨eb, eo, rfl, hebB, hat, _⟩ := (HM.out.below HBX.out).get hlt
      obtain ⟨fb, fo, rfl, hfbB, hat', _⟩ := (HM'.out.below HBX.out).get hlt
      obtain ⟨p0, p1, p2, p3⟩ := hat
      obtain ⟨q0, q1, q2, q3⟩ := hat'
      have hez : eb < wr.heap.size := by have := HBX.out.size; omega
      have hfz : fb < wr.heap.size := by have := HBX.out.size; omega
      have HSI := Lib.hid (HSB.out i hlt)
      unfold BM.val at HSI
      go_upto_region 6 with (fail)
      (refine wp_region_calm (wr.heap.size) (by kernel_rfl) (by kernel_rfl) ?_; (repeat (first | go_big_quiet_step ((go_at_call 34; exact Calls.calm_of (Nat.le_refl _) (HSI.out _ (HBX.out.trans ((Calm.below _).mono HBX.out.size))))) | quiet_step ((go_at_call 34; exact Calls.calm_of (Nat.le_refl _) (HSI.out _ (HBX.out.trans ((Calm.below _).mono HBX.out.size))))))); refine wpQuiet_nil ?_; intro _ hw'; obtain ⟨xq, hw''⟩ := hw'; subst hw'')
      have HX2 := Lib.hid (HX.out.trans ((Calm.below xq).mono HX.out.size))
      generalize Calm.val xq = wq at *
      go_wp2
      go_roundw
      case rel => exact ⟨i + 1, by omega, by go_num, HX2⟩
      case measure => simp [intOf]; omega
    · obtain rfl : i = m := by omega
      have hlt' : ¬ (i : Int) < (i : Int) := by omega
      have HBX := Lib.hid (HB2.out.trans (HX.out.mono HB2.out.size))
      go_wp2
      go_ret
      exact ⟨rfl, HBX.out⟩
end Go.Proofs.YtnfigielhnnpnaaDoor
