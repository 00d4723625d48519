/- The statement PlaneFiles: its walk. -/
import Derived.Test.YtegimepmccilfaaGreatDoorGpD
import Derived.Test.YtegimepmccilfaaGreatDoorFpSame
import Derived.Test.YtegimepmccilfaaGreatDoorPlSmall
import Derived.Test.YtegimepmccilfaaGreatDoorPlPrint
import Derived.Test.YtegimepmccilfaaGreatDoorGpB
import Derived.Test.YtegimepmccilfaaGreatDoorKnown
import Derived.Test.YtegimepmccilfaaGreatDoorPlaneJ
namespace Go.Proofs.YtegimepmccilfaaGreatDoor
open Go.RowKit
set_option linter.unusedVariables false
set_option linter.unusedSimpArgs false
/-- the statement's box -/
abbrev FB (a : Option Addr) (n c : Nat) (w W : World) : Prop := W.cell? ⟨w.heap.size, 0, none⟩ = some (.slice a n c) ∧ w.heap.size < W.heap.size ∧ Below w.heap.size w W
theorem FB.step {a : Option Addr} {n c : Nat} {w W W' : World} (h : FB a n c w W) (hb : Below W.heap.size W W') : FB a n c w W' := ⟨((bcell hb).1 _ _ h.2.1).trans h.1, Nat.lt_of_lt_of_le h.2.1 hb.size, h.2.2.trans (hb.mono h.2.2.size)⟩
theorem FB.start {a : Option Addr} {n c : Nat} {w : World} {t : TypeId} : FB a n c w (w.alloc (.cells #[.slice a n c] t)) := ⟨cell_of_row _ _ 0 _ _ _ (al_new w _ _ rfl), by simp, rd_below w _⟩
/-- what Read gives of a file that was printed -/
theorem read_back {n : Nat} {ps : Nat → PR} (hC : checkB n ps = true) (w : World) (hm : HasMax w) : Calls Tryz.prog 10 #[.string ⟨(filT (ppsOf n ps)).toArray⟩] w fun e w' => (∃ (a : Option Addr) (c : Nat) (L : List PR), L.length = n ∧ e = .returned (.tuple #[.agg #[.slice a L.length c], .int .i64 0]) ∧ OPl w.heap.size w' a c L ∧ ∀ i, i < n → WSame (ps i) (qF L i)) ∧ Below w.heap.size w w' := by
  have hl := filT_len hC
  have hf := fil_T (check_oks hC) (by have := (check_ppb hC).1; simp [ppsOf]; omega)
  refine (plRead_any _ (by unfold maxLen; omega) w hm).mono fun e w' hr => ?_
  obtain ⟨hb, hr2⟩ := hr
  rcases hr2 with ⟨h1, _⟩ | ⟨_, h2, _⟩ | ⟨_, a, c, L, h2, hk⟩
  · omega
  · rw [hf] at h2
    cases h2
  · rw [hf] at h2
    injection h2 with h2
    rw [← pps_list] at h2
    obtain ⟨hn, hs⟩ := pps_same h2
    rw [← hn] at hk
    rcases hk with ⟨hk, _⟩ | ⟨_, he, hp⟩
    · rw [check_same hs] at hC
      rw [hC] at hk
      cases hk
    · exact ⟨⟨a, c, L, hn.symm, by rw [← hn]; exact he, hp, hs⟩, hb⟩
set_option maxRecDepth 100000 in
set_option maxHeartbeats 2000000 in
theorem PlaneFiles_any (a : Option Addr) (n c : Nat) (ps : Nat → PR) (w : World) (B : Nat) (hBw : B ≤ w.heap.size) (hP : Planes B w a n ps) (htab : Lib.TabIs Tryz.prog w "internal/strconv.uint64pow10" .u64 Lib.pow10Tab) (hm : HasMax w) :
    Calls Tryz.prog 3 #[setupV a n c] w fun e w' => e = .returned (.bool true) ∧ Below w.heap.size w w' := by
  have HTB := Lib.hid (Lib.tabBelow_of_tabIs htab)
  have HP := Lib.hid (fun (W : World) (hb : Below w.heap.size w W) => hP.below (hb.mono hBw))
  have HPR := Lib.hid (fun (W : World) (hb : Below w.heap.size w W) => plPrint_any a n c ps W B (Nat.le_trans hBw hb.size) (HP.out W hb) (HTB.out.on hb).here)
  have HST := Lib.hid (fun (W : World) (hb : Below w.heap.size w W) => refSetup_any a n c ps W B (Nat.le_trans hBw hb.size) (HP.out W hb))
  have HMX := Lib.hid (fun (W : World) (hb : Below w.heap.size w W) => hm.below hm.pos hb)
  clear hP htab hm HTB
  have HF := Lib.hid (FB.start (a := a) (n := n) (c := c) (w := w) (t := 24))
  have l0 := HF.out.1
  cases hs : smallB n ps with
  | false =>
    go_enter Tryz.func3, Tryz.ntmps3
    go_wp2_with (first | (go_at_call 5; refine (small_any a n c ps _ B (Nat.le_trans hBw HF.out.2.2.size) (HP.out _ HF.out.2.2)).mono ?_; rintro e wy ⟨rfl, hby⟩; rw [hs]; (have HFn := Lib.hid (HF.out.step hby); clear HF; have HF := HFn; clear HFn hby; try clear l0; have l0 := HF.out.1)) | (go_at_call 6; refine (lawKnown_any _).mono ?_; rintro e wy ⟨rfl, hby⟩; (have HFn := Lib.hid (HF.out.step hby); clear HF; have HF := HFn; clear HFn hby; try clear l0; have l0 := HF.out.1)))
    go_ret
    exact ⟨rfl, HF.out.2.2⟩
  | true =>
    cases hC : checkB n ps with
    | false =>
      have e1 : prT n ps = [] := by unfold prT; rw [hC]; rfl
      have e2 : prE n ps = 2 := by unfold prE; rw [hC]; rfl
      rw [e1, e2] at HPR
      rw [hC] at HST
      clear e1 e2
      go_enter Tryz.func3, Tryz.ntmps3
      go_wp2_with (first | (go_at_call 5; refine (small_any a n c ps _ B (Nat.le_trans hBw HF.out.2.2.size) (HP.out _ HF.out.2.2)).mono ?_; rintro e wy ⟨rfl, hby⟩; rw [hs]; (have HFn := Lib.hid (HF.out.step hby); clear HF; have HF := HFn; clear HFn hby; try clear l0; have l0 := HF.out.1)) | (go_at_call 6; refine (lawKnown_any _).mono ?_; rintro e wy ⟨rfl, hby⟩; (have HFn := Lib.hid (HF.out.step hby); clear HF; have HF := HFn; clear HFn hby; try clear l0; have l0 := HF.out.1)) | (go_at_call 7; refine (HPR.out _ HF.out.2.2).mono ?_; rintro e wy ⟨rfl, hby⟩; (have HFn := Lib.hid (HF.out.step hby); clear HF; have HF := HFn; clear HFn hby; try clear l0; have l0 := HF.out.1)) | (go_at_call 8; refine (HST.out _ HF.out.2.2).mono ?_; rintro e wy ⟨rfl, hby⟩; (have HFn := Lib.hid (HF.out.step hby); clear HF; have HF := HFn; clear HFn hby; try clear l0; have l0 := HF.out.1)))
      go_ret
      exact ⟨rfl, HF.out.2.2⟩
    | true =>
      have e1 : prT n ps = filT (ppsOf n ps) := by unfold prT; rw [hC]; rfl
      have e2 : prE n ps = 0 := by unfold prE; rw [hC]; rfl
      rw [e1, e2] at HPR
      rw [hC] at HST
      have HRP := Lib.hid (fun (W : World) (hb : Below w.heap.size w W) => r1Print_any a n c ps W B (Nat.le_trans hBw hb.size) (HP.out W hb) hC)
      have HRD := Lib.hid (fun (W : World) (hb : Below w.heap.size w W) => read_back hC W (HMX.out W hb))
      clear e1 e2 hC HMX
      generalize filT (ppsOf n ps) = T at *
      have HSB := Lib.hid hBw
      go_enter Tryz.func3, Tryz.ntmps3
      go_upto_region 9 with (first | (go_at_call 5; refine (small_any a n c ps _ B (Nat.le_trans hBw HF.out.2.2.size) (HP.out _ HF.out.2.2)).mono ?_; rintro e wy ⟨rfl, hby⟩; rw [hs]; (have HFn := Lib.hid (HF.out.step hby); clear HF; have HF := HFn; clear HFn hby; try clear l0; have l0 := HF.out.1)) | (go_at_call 7; refine (HPR.out _ HF.out.2.2).mono ?_; rintro e wy ⟨rfl, hby⟩; (have HFn := Lib.hid (HF.out.step hby); clear HF; have HF := HFn; clear HFn hby; try clear l0; have l0 := HF.out.1)) | (go_at_call 8; refine (HST.out _ HF.out.2.2).mono ?_; rintro e wy ⟨rfl, hby⟩; (have HFn := Lib.hid (HF.out.step hby); clear HF; have HF := HFn; clear HFn hby; try clear l0; have l0 := HF.out.1)) | (go_at_call 9; refine (HRP.out _ HF.out.2.2).mono ?_; rintro e wy ⟨rfl, hby⟩; (have HFn := Lib.hid (HF.out.step hby); clear HF; have HF := HFn; clear HFn hby; try clear l0; have l0 := HF.out.1)) | (go_at_call 10; refine (HRD.out _ HF.out.2.2).mono ?_; rintro e wy ⟨⟨ra, rc, L, hL, rfl, hop, hsm⟩, hby⟩; have HWR := Lib.hid HF.out.2.2.size; (have HFn := Lib.hid (HF.out.step hby); clear HF; have HF := HFn; clear HFn hby; try clear l0; have l0 := HF.out.1)))
      have hbv := rd_below wy (.cells #[.slice ra n rc] 24)
      have HPX := Lib.hid (show Planes (World.alloc wy (.cells #[.slice ra n rc] 24)).heap.size (World.alloc wy (.cells #[.slice ra n rc] 24)) ra n (qF L) from by
        rw [← hL]
        exact (hop.below (by rw [hL]; exact hbv)).planes)
      have hby := hbv
      (have HFn := Lib.hid (HF.out.step hby); clear HF; have HF := HFn; clear HFn hby; try clear l0; have l0 := HF.out.1)
      have l1 : (World.alloc wy (.cells #[.slice ra n rc] 24)).cell? ⟨wy.heap.size, 0, none⟩ = some (.slice ra n rc) := cell_of_row _ _ 0 _ _ _ (al_new wy _ _ rfl)
      have HSM := Lib.hid (fun (i : Nat) (hi : i < n) => (hsm i hi).symm)
      have HPS := Lib.hid ((HP.out _ HF.out.2.2).up (Nat.le_trans HSB.out HF.out.2.2.size))
      clear hop hsm hbv hL
      generalize World.alloc wy _ = V at *
      generalize wy.heap.size = xb at *
      have HSS := Lib.hid (same_any ra a n rc c (qF L) ps V V.heap.size (Nat.le_refl _) HPX.out HPS.out HSM.out)
      clear HPX HPS HSM
      go_wp2_with (first | (go_at_call 11; refine HSS.out.mono ?_; rintro e wy ⟨rfl, hby⟩; (have HFn := Lib.hid (HF.out.step hby); clear HF; have HF := HFn; clear HFn hby; try clear l0; have l0 := HF.out.1)) | (go_at_call 6; refine (lawKnown_any _).mono ?_; rintro e wy ⟨rfl, hby⟩; (have HFn := Lib.hid (HF.out.step hby); clear HF; have HF := HFn; clear HFn hby; try clear l0; have l0 := HF.out.1)))
      go_ret
      exact ⟨rfl, HF.out.2.2⟩
end Go.Proofs.YtegimepmccilfaaGreatDoor
