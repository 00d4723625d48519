/- The statement PlaneAligns: its walk. -/
import Derived.Test.YtgcepjminlapiaaAlignD
import Derived.Test.YtgcepjminlapiaaAlignE
import Derived.Test.YtgcepjminlapiaaLawA
import Derived.Test.YtgcepjminlapiaaPlaneR
namespace Go.Proofs.Ytgcepjminlapiaa
open Go.RowKit
set_option linter.unusedVariables false
set_option linter.unusedSimpArgs false
theorem Aligned_none (a : Option Addr) (n c : Nat) (ps : Nat → PR) (oa : Option Addr) (on od : Nat) (os : Nat → SV) (ca : Option Addr) (cn cd : Nat) (cs : Nat → SV) (E : Int) (hE : E = if checkB n ps = true then alignE n ps on os cn cs else 2) (h0 : ¬ E = 0) (w : World) (B : Nat) (hBw : B ≤ w.heap.size) (hP : Planes B w a n ps) (hO : Spans B w oa on os) (hK : Spans B w ca cn cs) :
    Calls Try.prog 32 #[setupV a n c, .slice oa on od, .slice ca cn cd] w fun e w' => e = .returned (.tuple #[.agg #[.slice none 0 0], .int .i64 E]) ∧ Below w.heap.size w w' :=
  (Aligned_any a n c ps oa on od os ca cn cd cs w B hBw hP hO hK E hE).mono fun e w' ⟨m, a', c', qs, he, _, h2, hb⟩ => by
    obtain ⟨rfl, rfl, rfl⟩ := h2 h0
    exact ⟨he, hb⟩
theorem refAligned_none (a : Option Addr) (n c : Nat) (ps : Nat → PR) (oa : Option Addr) (on od : Nat) (os : Nat → SV) (ca : Option Addr) (cn cd : Nat) (cs : Nat → SV) (hC : checkB n ps = true) (E : Int) (hE : E = alignE n ps on os cn cs) (h0 : ¬ E = 0) (w : World) (B : Nat) (hBw : B ≤ w.heap.size) (hP : Planes B w a n ps) (hO : Spans B w oa on os) (hK : Spans B w ca cn cs) :
    Calls Try.prog 34 #[setupV a n c, .slice oa on od, .slice ca cn cd] w fun e w' => e = .returned (.tuple #[.agg #[.slice none 0 0], .int .i64 E]) ∧ Below w.heap.size w w' :=
  (refAligned_any a n c ps oa on od os ca cn cd cs w B hBw hP hO hK hC E hE).mono fun e w' ⟨m, a', c', qs, he, _, h2, hb⟩ => by
    obtain ⟨rfl, rfl, rfl⟩ := h2 h0
    exact ⟨he, hb⟩
def AlignedOk (w : World) (n : Nat) (Q : Nat → PR) (e : Ending) (w' : World) : Prop := ∃ a c qs, e = .returned (.tuple #[.agg #[.slice a n c], .int .i64 0]) ∧ Planes w'.heap.size w' a n qs ∧ (∀ i, i < n → PSame (Q i) (qs i)) ∧ Below w.heap.size w w'
theorem Aligned_some (a : Option Addr) (n c : Nat) (ps : Nat → PR) (oa : Option Addr) (on od : Nat) (os : Nat → SV) (ca : Option Addr) (cn cd : Nat) (cs : Nat → SV) (hE : 0 = if checkB n ps = true then alignE n ps on os cn cs else 2) (w : World) (B : Nat) (hBw : B ≤ w.heap.size) (hP : Planes B w a n ps) (hO : Spans B w oa on os) (hK : Spans B w ca cn cs) :
    Calls Try.prog 32 #[setupV a n c, .slice oa on od, .slice ca cn cd] w (AlignedOk w n (alnQ ps os cs)) :=
  (Aligned_any a n c ps oa on od os ca cn cd cs w B hBw hP hO hK 0 hE).mono fun e w' ⟨m, a', c', qs, he, h1, _, hb⟩ => by
    obtain ⟨rfl, h1, h2⟩ := h1 rfl
    exact ⟨a', c', qs, he, h1, h2, hb⟩
theorem refAligned_some (a : Option Addr) (n c : Nat) (ps : Nat → PR) (oa : Option Addr) (on od : Nat) (os : Nat → SV) (ca : Option Addr) (cn cd : Nat) (cs : Nat → SV) (hC : checkB n ps = true) (hE : 0 = alignE n ps on os cn cs) (w : World) (B : Nat) (hBw : B ≤ w.heap.size) (hP : Planes B w a n ps) (hO : Spans B w oa on os) (hK : Spans B w ca cn cs) :
    Calls Try.prog 34 #[setupV a n c, .slice oa on od, .slice ca cn cd] w (AlignedOk w n (alnQ ps os cs)) :=
  (refAligned_any a n c ps oa on od os ca cn cd cs w B hBw hP hO hK hC 0 hE).mono fun e w' ⟨m, a', c', qs, he, h1, _, hb⟩ => by
    obtain ⟨rfl, h1, h2⟩ := h1 rfl
    exact ⟨a', c', qs, he, h1, h2, hb⟩
theorem SameSetup_nil (w : World) : Calls Try.prog 33 #[setupV none 0 0, setupV none 0 0] w fun e w' => e = .returned (.bool true) ∧ Below w.heap.size w w' :=
  SameSetup_same none none 0 0 0 (fun _ => zeroPR) (fun _ => zeroPR) w 0 (Nat.zero_le _) ⟨Nat.zero_le _, .inl rfl⟩ ⟨Nat.zero_le _, .inl rfl⟩ (fun i hi => by omega)
set_option maxRecDepth 100000 in
set_option maxHeartbeats 1000000 in
theorem PA_out (a : Option Addr) (n c : Nat) (ps : Nat → PR) (oa : Option Addr) (on od : Nat) (os : Nat → SV) (ca : Option Addr) (cn cd : Nat) (cs : Nat → SV) (h : HV) (w : World) (B : Nat) (hBw : B ≤ w.heap.size) (hP : Planes B w a n ps) (hO : Spans B w oa on os) (hK : Spans B w ca cn cs) (hU : smallB n ps = false ∨ 20 < on ∨ 20 < cn) : Calls Try.prog 8 #[setupV a n c, .slice oa on od, .slice ca cn cd, h.val] w fun e w' => e = .returned (.bool true) ∧ Below w.heap.size w w' := by
  have HP := Lib.hid hP
  have hon := hO.1
  have hcn := hK.1
  unfold maxLen at hon hcn
  clear hP hO hK
  cases hsm : smallB n ps
  · clear hU
    go_enter Try.func8, Try.ntmps8
    go_wp2_with (first | (go_at_call 15; refine (small_any a n c ps _ B (by simp; omega) (HP.out.below (((Below.refl B w).alloc hBw _).alloc (by simp; omega) _))).mono ?_; rintro e wy ⟨rfl, hby⟩; rw [hsm]; obtain ⟨l0, l1, l2, l3, l4, l5⟩ := LB_step (LB_start (h := h)) hby; clear hby) | (go_at_call 16; refine (lawKnown_any _).mono ?_; rintro e wy ⟨rfl, hby⟩; have hL := LB_step ⟨l0, l1, l2, l3, l4, l5⟩ hby; clear l0 l1 l2 l3 l4 l5; obtain ⟨l0, l1, l2, l3, l4, l5⟩ := hL; clear hby))
    go_ret
    exact ⟨rfl, l5⟩
  · by_cases h1 : 20 < on
    · have h1' : (20 : Int) < (on : Int) := by omega
      clear hU h1
      go_enter Try.func8, Try.ntmps8
      go_wp2_with (first | (go_at_call 15; refine (small_any a n c ps _ B (by simp; omega) (HP.out.below (((Below.refl B w).alloc hBw _).alloc (by simp; omega) _))).mono ?_; rintro e wy ⟨rfl, hby⟩; rw [hsm]; obtain ⟨l0, l1, l2, l3, l4, l5⟩ := LB_step (LB_start (h := h)) hby; clear hby) | (go_at_call 16; refine (lawKnown_any _).mono ?_; rintro e wy ⟨rfl, hby⟩; have hL := LB_step ⟨l0, l1, l2, l3, l4, l5⟩ hby; clear l0 l1 l2 l3 l4 l5; obtain ⟨l0, l1, l2, l3, l4, l5⟩ := hL; clear hby))
      go_ret
      exact ⟨rfl, l5⟩
    · have h2 : 20 < cn := by rcases hU with h | h | h; (rw [hsm] at h; cases h); omega; exact h
      have h1' : ¬ (20 : Int) < (on : Int) := by omega
      have h2' : (20 : Int) < (cn : Int) := by omega
      clear hU h1 h2
      go_enter Try.func8, Try.ntmps8
      go_wp2_with (first | (go_at_call 15; refine (small_any a n c ps _ B (by simp; omega) (HP.out.below (((Below.refl B w).alloc hBw _).alloc (by simp; omega) _))).mono ?_; rintro e wy ⟨rfl, hby⟩; rw [hsm]; obtain ⟨l0, l1, l2, l3, l4, l5⟩ := LB_step (LB_start (h := h)) hby; clear hby) | (go_at_call 16; refine (lawKnown_any _).mono ?_; rintro e wy ⟨rfl, hby⟩; have hL := LB_step ⟨l0, l1, l2, l3, l4, l5⟩ hby; clear l0 l1 l2 l3 l4 l5; obtain ⟨l0, l1, l2, l3, l4, l5⟩ := hL; clear hby))
      go_ret
      exact ⟨rfl, l5⟩
/-- and the box of the setup that Aligned returned -/
abbrev LP (a : Option Addr) (n c : Nat) (h : HV) (w : World) (x : Nat) (v : Value) (wx : World) : Prop := LB a n c h w wx ∧ x < wx.heap.size ∧ wx.cell? ⟨x, 0, none⟩ = some v
theorem LP_step {a : Option Addr} {n c : Nat} {h : HV} {w W wy : World} {x : Nat} {v : Value} (hL : LP a n c h w x v W) (hb : Below W.heap.size W wy) : LP a n c h w x v wy :=
  ⟨LB_step hL.1 hb, Nat.lt_of_lt_of_le hL.2.1 hb.size, ((bcell hb).1 _ _ hL.2.1).trans hL.2.2⟩
set_option maxRecDepth 100000 in
set_option maxHeartbeats 2000000 in
theorem PA_err (a : Option Addr) (n c : Nat) (ps : Nat → PR) (oa : Option Addr) (on od : Nat) (os : Nat → SV) (ca : Option Addr) (cn cd : Nat) (cs : Nat → SV) (h : HV) (w : World) (B : Nat) (hBw : B ≤ w.heap.size) (hP : Planes B w a n ps) (hO : Spans B w oa on os) (hK : Spans B w ca cn cs) (hsm : smallB n ps = true) (h1 : on ≤ 20) (h2 : cn ≤ 20) (E : Int) (hE : E = if checkB n ps = true then alignE n ps on os cn cs else 2) (h0 : ¬ E = 0) : Calls Try.prog 8 #[setupV a n c, .slice oa on od, .slice ca cn cd, h.val] w fun e w' => e = .returned (.bool true) ∧ Below w.heap.size w w' := by
  have HP := Lib.hid hP
  have HO := Lib.hid hO
  have HK := Lib.hid hK
  have HA := Lib.hid (Aligned_none a n c ps oa on od os ca cn cd cs E hE h0)
  have hon := hO.1
  have hcn := hK.1
  unfold maxLen at hon hcn
  have h1' : ¬ (20 : Int) < (on : Int) := by omega
  have h2' : ¬ (20 : Int) < (cn : Int) := by omega
  clear hP hO hK
  have hEne : (E != 0) = true := by simp [h0]
  have HE := Lib.hid hE
  have H0 := Lib.hid h0
  clear hE h0
  go_enter Try.func8, Try.ntmps8
  go_upto_region 3 with (go_at_call 15; refine (small_any a n c ps _ B (by simp; omega) (HP.out.below (((Below.refl B w).alloc hBw _).alloc (by simp; omega) _))).mono ?_; rintro e wy ⟨rfl, hby⟩; rw [hsm]; obtain ⟨l0, l1, l2, l3, l4, l5⟩ := LB_step (LB_start (h := h)) hby; clear hby)
  go_cut [9, 10] from 38 to 44 (fun s9 s10 wx => ∃ x, s9 = .pointer (some ⟨x, 0, none⟩) ∧ s10 = .int .i64 E ∧ LP a n c h w x (.slice none 0 0) wx)
  case first =>
    go_wp2_with (go_at_call 32; refine (HA.out _ B (by omega) (HP.out.below (l5.mono hBw)) (HO.out.below (l5.mono hBw)) (HK.out.below (l5.mono hBw))).mono ?_; rintro e wy ⟨rfl, hby⟩; have hL := LB_step ⟨l0, l1, l2, l3, l4, l5⟩ hby; clear l0 l1 l2 l3 l4 l5; obtain ⟨l0, l1, l2, l3, l4, l5⟩ := hL; clear hby)
    go_meet
    exact ⟨_, rfl, rfl, LB_alloc ⟨l0, l1, l2, l3, l4, l5⟩ _, by simp, by go_simp⟩
  clear l0 l1 l2 l3 l4 l5
  obtain ⟨x, rfl, rfl, ⟨⟨l0, l1, l2, l3, l4, l5⟩, x1, x2⟩⟩ := hcut
  cases hC : checkB n ps
  · have hE2 : E = 2 := by rw [HE.out, hC]; rfl
    subst hE2
    clear hEne
    go_wp2_with (first | (go_at_call 19; refine (refSetup_any a n c ps _ B (by omega) (HP.out.below (l5.mono hBw))).mono ?_; rintro e wy ⟨rfl, hby⟩; rw [hC]; have hL := LP_step ⟨⟨l0, l1, l2, l3, l4, l5⟩, x1, x2⟩ hby; clear l0 l1 l2 l3 l4 l5 x1 x2; obtain ⟨⟨l0, l1, l2, l3, l4, l5⟩, x1, x2⟩ := hL; clear hby) | (go_at_call 33; refine (SameSetup_nil _).mono ?_; rintro e wy ⟨rfl, hby⟩; have hL := LP_step ⟨⟨l0, l1, l2, l3, l4, l5⟩, x1, x2⟩ hby; clear l0 l1 l2 l3 l4 l5 x1 x2; obtain ⟨⟨l0, l1, l2, l3, l4, l5⟩, x1, x2⟩ := hL; clear hby) | (go_at_call 16; refine (lawKnown_any _).mono ?_; rintro e wy ⟨rfl, hby⟩; have hL := LB_step ⟨l0, l1, l2, l3, l4, l5⟩ hby; clear l0 l1 l2 l3 l4 l5; obtain ⟨l0, l1, l2, l3, l4, l5⟩ := hL; clear hby))
    go_ret
    exact ⟨rfl, l5⟩
  · have HR := Lib.hid (refAligned_none a n c ps oa on od os ca cn cd cs hC E (by rw [HE.out, if_pos hC]) H0.out)
    go_upto_region 6 with (go_at_call 19; refine (refSetup_any a n c ps _ B (by omega) (HP.out.below (l5.mono hBw))).mono ?_; rintro e wy ⟨rfl, hby⟩; rw [hC]; have hL := LP_step ⟨⟨l0, l1, l2, l3, l4, l5⟩, x1, x2⟩ hby; clear l0 l1 l2 l3 l4 l5 x1 x2; obtain ⟨⟨l0, l1, l2, l3, l4, l5⟩, x1, x2⟩ := hL; clear hby)
    go_wp2_with (first | (go_at_call 34; refine (HR.out _ B (by omega) (HP.out.below (l5.mono hBw)) (HO.out.below (l5.mono hBw)) (HK.out.below (l5.mono hBw))).mono ?_; rintro e wy ⟨rfl, hby⟩; have hL := LP_step ⟨⟨l0, l1, l2, l3, l4, l5⟩, x1, x2⟩ hby; clear l0 l1 l2 l3 l4 l5 x1 x2; obtain ⟨⟨l0, l1, l2, l3, l4, l5⟩, x1, x2⟩ := hL; clear hby) | (go_at_call 33; refine (SameSetup_nil _).mono ?_; rintro e wy ⟨rfl, hby⟩; have hby := Below.trans ((Below.refl _ _).alloc (Nat.le_refl _) _) (hby.mono (by simp)); have hL := LP_step ⟨⟨l0, l1, l2, l3, l4, l5⟩, x1, x2⟩ hby; clear l0 l1 l2 l3 l4 l5 x1 x2; obtain ⟨⟨l0, l1, l2, l3, l4, l5⟩, x1, x2⟩ := hL; clear hby) | (go_at_call 16; refine (lawKnown_any _).mono ?_; rintro e wy ⟨rfl, hby⟩; have hL := LB_step ⟨l0, l1, l2, l3, l4, l5⟩ hby; clear l0 l1 l2 l3 l4 l5; obtain ⟨l0, l1, l2, l3, l4, l5⟩ := hL; clear hby))
    go_ret
    exact ⟨rfl, l5⟩
/-- the gates of both setups -/
abbrev LGt (a : Option Addr) (n c : Nat) (h : HV) (w : World) (ga : Option Addr) (gn : Nat) (f : Nat → GV) (gb : Option Addr) (gm : Nat) (g : Nat → GV) (wx : World) : Prop := LB a n c h w wx ∧ GatesAt wx.heap.size wx ga gn f ∧ GatesAt wx.heap.size wx gb gm g
theorem LGt_step {a : Option Addr} {n c : Nat} {h : HV} {w W wy : World} {ga : Option Addr} {gn : Nat} {f : Nat → GV} {gb : Option Addr} {gm : Nat} {g : Nat → GV} (hL : LGt a n c h w ga gn f gb gm g W) (hb : Below W.heap.size W wy) : LGt a n c h w ga gn f gb gm g wy :=
  ⟨LB_step hL.1 hb, (hL.2.1.below hb).up hb.size, (hL.2.2.below hb).up hb.size⟩
set_option maxRecDepth 100000 in
set_option maxHeartbeats 4000000 in
theorem PA_ok (a : Option Addr) (n c : Nat) (ps : Nat → PR) (oa : Option Addr) (on od : Nat) (os : Nat → SV) (ca : Option Addr) (cn cd : Nat) (cs : Nat → SV) (h : HV) (w : World) (B : Nat) (hBw : B ≤ w.heap.size) (hP : Planes B w a n ps) (hO : Spans B w oa on os) (hK : Spans B w ca cn cs) (hsm : smallB n ps = true) (h1 : on ≤ 20) (h2 : cn ≤ 20) (hC : checkB n ps = true) (hE : 0 = alignE n ps on os cn cs) : Calls Try.prog 8 #[setupV a n c, .slice oa on od, .slice ca cn cd, h.val] w fun e w' => e = .returned (.bool true) ∧ Below w.heap.size w w' := by
  have hN3 : on = n ∧ cn = n ∧ checkB n (alnQ ps os cs) = true ∧ narB ps os cs n = true := by
    rw [alignE] at hE
    by_cases e1 : on = n ∧ cn = n
    · rw [if_pos e1] at hE
      by_cases e2 : checkB n (alnQ ps os cs) = true
      · rw [if_pos e2] at hE
        by_cases e3 : narB ps os cs n = true
        · exact ⟨e1.1, e1.2, e2, e3⟩
        · rw [if_neg e3] at hE; cases hE
      · rw [if_neg e2] at hE; cases hE
    · rw [if_neg e1] at hE; cases hE
  have HN3 := Lib.hid hN3
  have HP := Lib.hid hP
  have HO := Lib.hid hO
  have HK := Lib.hid hK
  have HC := Lib.hid hC
  have HA := Lib.hid (Aligned_some a n c ps oa on od os ca cn cd cs (by rw [if_pos hC]; exact hE))
  have HR := Lib.hid (refAligned_some a n c ps oa on od os ca cn cd cs hC hE)
  have hon := hO.1
  have hcn := hK.1
  unfold maxLen at hon hcn
  have h1' : ¬ (20 : Int) < (on : Int) := by omega
  have h2' : ¬ (20 : Int) < (cn : Int) := by omega
  clear hP hO hK hE hN3
  go_enter Try.func8, Try.ntmps8
  go_upto_region 3 with (go_at_call 15; refine (small_any a n c ps _ B (by simp; omega) (HP.out.below (((Below.refl B w).alloc hBw _).alloc (by simp; omega) _))).mono ?_; rintro e wy ⟨rfl, hby⟩; rw [hsm]; obtain ⟨l0, l1, l2, l3, l4, l5⟩ := LB_step (LB_start (h := h)) hby; clear hby)
  go_cut [9, 10] from 38 to 44 (fun s9 s10 wx => ∃ x xa xc qs, s9 = .pointer (some ⟨x, 0, none⟩) ∧ s10 = .int .i64 0 ∧ LP a n c h w x (.slice xa n xc) wx ∧ Hid (Planes wx.heap.size wx xa n qs ∧ ∀ i, i < n → PSame (alnQ ps os cs i) (qs i)))
  case first =>
    go_wp2_with (go_at_call 32; refine (HA.out _ B (by omega) (HP.out.below (l5.mono hBw)) (HO.out.below (l5.mono hBw)) (HK.out.below (l5.mono hBw))).mono ?_; rintro e wy ⟨xa, xc, qs, rfl, hX1, hX2, hby⟩; have HX := Lib.hid (And.intro hX1 hX2); have hL := LB_step ⟨l0, l1, l2, l3, l4, l5⟩ hby; clear l0 l1 l2 l3 l4 l5; obtain ⟨l0, l1, l2, l3, l4, l5⟩ := hL; clear hby hX1 hX2)
    go_meet
    exact ⟨_, xa, xc, qs, rfl, rfl, ⟨LB_alloc ⟨l0, l1, l2, l3, l4, l5⟩ _, by simp, by go_simp⟩, Lib.hid ⟨(HX.out.1.below ((Below.refl _ _).alloc (Nat.le_refl _) _)).up (by simp), HX.out.2⟩⟩
  clear l0 l1 l2 l3 l4 l5
  obtain ⟨x, xa, xc, qs, rfl, rfl, ⟨⟨l0, l1, l2, l3, l4, l5⟩, x1, x2⟩, HX⟩ := hcut
  go_upto_region 6 with (go_at_call 19; refine (refSetup_any a n c ps _ B (by omega) (HP.out.below (l5.mono hBw))).mono ?_; rintro e wy ⟨rfl, hby⟩; rw [hC]; have HX := Lib.hid (And.intro ((HX.out.1.below hby).up hby.size) HX.out.2); have hL := LP_step ⟨⟨l0, l1, l2, l3, l4, l5⟩, x1, x2⟩ hby; clear l0 l1 l2 l3 l4 l5 x1 x2; obtain ⟨⟨l0, l1, l2, l3, l4, l5⟩, x1, x2⟩ := hL; clear hby)
  cases hOf : ofB n ps h
  · go_wp2_with (first | (go_at_call 34; refine (HR.out _ B (by omega) (HP.out.below (l5.mono hBw)) (HO.out.below (l5.mono hBw)) (HK.out.below (l5.mono hBw))).mono ?_; rintro e wy ⟨ya, yc, rs, rfl, hY1, hY2, hby⟩; have HY := Lib.hid (And.intro hY1 hY2); have HX := Lib.hid (And.intro ((HX.out.1.below hby).up hby.size) HX.out.2); have hL := LP_step ⟨⟨l0, l1, l2, l3, l4, l5⟩, x1, x2⟩ hby; clear l0 l1 l2 l3 l4 l5 x1 x2; obtain ⟨⟨l0, l1, l2, l3, l4, l5⟩, x1, x2⟩ := hL; clear hby hY1 hY2) | (go_at_call 33; refine (SameSetup_same xa ya n xc yc qs rs _ _ (Nat.le_refl _) ((HX.out.1.below ((Below.refl _ _).alloc (Nat.le_refl _) _)).up (by simp)) ((HY.out.1.below ((Below.refl _ _).alloc (Nat.le_refl _) _)).up (by simp)) (fun i hi => (HX.out.2 i hi).two (HY.out.2 i hi))).mono ?_; rintro e wy ⟨rfl, hby⟩; have hby := Below.trans ((Below.refl _ _).alloc (Nat.le_refl _) _) (hby.mono (by simp)); have hL := LP_step ⟨⟨l0, l1, l2, l3, l4, l5⟩, x1, x2⟩ hby; clear l0 l1 l2 l3 l4 l5 x1 x2; obtain ⟨⟨l0, l1, l2, l3, l4, l5⟩, x1, x2⟩ := hL; clear hby) | (go_at_call 20; refine (refHit_any a n c ps h _ B (by omega) (HP.out.below (l5.mono hBw)) HC.out).mono ?_; rintro e wy ⟨rfl, hby⟩; rw [hOf]; have hL := LP_step ⟨⟨l0, l1, l2, l3, l4, l5⟩, x1, x2⟩ hby; clear l0 l1 l2 l3 l4 l5 x1 x2; obtain ⟨⟨l0, l1, l2, l3, l4, l5⟩, x1, x2⟩ := hL; clear hby) | (go_at_call 16; refine (lawKnown_any _).mono ?_; rintro e wy ⟨rfl, hby⟩; have hL := LB_step ⟨l0, l1, l2, l3, l4, l5⟩ hby; clear l0 l1 l2 l3 l4 l5; obtain ⟨l0, l1, l2, l3, l4, l5⟩ := hL; clear hby))
    go_ret
    exact ⟨rfl, l5⟩
  obtain ⟨k, hk, hkp, hkh⟩ := ofB_yes hOf
  obtain ⟨q1, q2, q3, q4, q5, q6⟩ := align_law hk HC.out HN3.out.2.2.1 HN3.out.2.2.2 HX.out.2 h hkh
  have HKP := Lib.hid hkp
  have HKH := Lib.hid hkh
  have HQC := Lib.hid q1
  have HQH := Lib.hid q2
  obtain ⟨gn, hgn⟩ : ∃ g, g = gateN (ps k) h := ⟨_, rfl⟩
  obtain ⟨gm, hgm⟩ : ∃ g, g = gateN (qs k) h := ⟨_, rfl⟩
  have hg2 : gn ≤ 2 := by rw [hgn, gateN]; split <;> split <;> omega
  have hm2 : gm ≤ 2 := by rw [hgm, gateN]; split <;> split <;> omega
  have HGN := Lib.hid hgn
  have HGM := Lib.hid hgm
  obtain ⟨ge, hge⟩ : ∃ g, g = gateE (ps k) h := ⟨_, rfl⟩
  have HGE := Lib.hid hge
  have HGF := Lib.hid (show ge = gateE (qs k) h by rw [hge, gateE, gateE]; by_cases e : gateN (ps k) h = 0; rw [if_pos e, if_pos (q3.2 e)]; rw [if_neg e, if_neg (fun e' => e (q3.1 e'))])
  obtain ⟨tl, htl⟩ : ∃ t, t = timeLo (ps k) h := ⟨_, rfl⟩
  obtain ⟨th, hth⟩ : ∃ t, t = timeHi (ps k) h := ⟨_, rfl⟩
  obtain ⟨sl, hsl⟩ : ∃ t, t = timeLo (qs k) h := ⟨_, rfl⟩
  obtain ⟨sh, hsh⟩ : ∃ t, t = timeHi (qs k) h := ⟨_, rfl⟩
  have HTL := Lib.hid htl
  have HTH := Lib.hid hth
  have HSL := Lib.hid hsl
  have HSH := Lib.hid hsh
  have t1 : ¬ sl < tl := by rw [hsl, htl]; omega
  have t2 : ¬ th < sh := by rw [hsh, hth]; omega
  obtain ⟨F, hF⟩ : ∃ f, f = gateF (ps k) h := ⟨_, rfl⟩
  obtain ⟨G, hG⟩ : ∃ f, f = gateF (qs k) h := ⟨_, rfl⟩
  have HFF := Lib.hid hF
  have HGG := Lib.hid hG
  have HMET := Lib.hid (show ∀ i, i < gm → metB F (G i) gn = true by rw [hgm, hgn, hF, hG]; exact q6)
  clear hkp hkh q1 q2 q3 q4 q5 q6 hgn hgm hge htl hth hsl hsh hF hG
  go_upto_region 11 with (first | (go_at_call 34; refine (HR.out _ B (by omega) (HP.out.below (l5.mono hBw)) (HO.out.below (l5.mono hBw)) (HK.out.below (l5.mono hBw))).mono ?_; rintro e wy ⟨ya, yc, rs, rfl, hY1, hY2, hby⟩; have HY := Lib.hid (And.intro hY1 hY2); have HX := Lib.hid (And.intro ((HX.out.1.below hby).up hby.size) HX.out.2); have hL := LP_step ⟨⟨l0, l1, l2, l3, l4, l5⟩, x1, x2⟩ hby; clear l0 l1 l2 l3 l4 l5 x1 x2; obtain ⟨⟨l0, l1, l2, l3, l4, l5⟩, x1, x2⟩ := hL; clear hby hY1 hY2) | (go_at_call 33; refine (SameSetup_same xa ya n xc yc qs rs _ _ (Nat.le_refl _) ((HX.out.1.below ((Below.refl _ _).alloc (Nat.le_refl _) _)).up (by simp)) ((HY.out.1.below ((Below.refl _ _).alloc (Nat.le_refl _) _)).up (by simp)) (fun i hi => (HX.out.2 i hi).two (HY.out.2 i hi))).mono ?_; rintro e wy ⟨rfl, hby⟩; have hby := Below.trans ((Below.refl _ _).alloc (Nat.le_refl _) _) (hby.mono (by simp)); have HX := Lib.hid (And.intro ((HX.out.1.below hby).up hby.size) HX.out.2); have hL := LP_step ⟨⟨l0, l1, l2, l3, l4, l5⟩, x1, x2⟩ hby; clear l0 l1 l2 l3 l4 l5 x1 x2; obtain ⟨⟨l0, l1, l2, l3, l4, l5⟩, x1, x2⟩ := hL; clear hby) | (go_at_call 20; refine (refHit_any a n c ps h _ B (by omega) (HP.out.below (l5.mono hBw)) HC.out).mono ?_; rintro e wy ⟨rfl, hby⟩; rw [hOf]; have HX := Lib.hid (And.intro ((HX.out.1.below hby).up hby.size) HX.out.2); have hL := LP_step ⟨⟨l0, l1, l2, l3, l4, l5⟩, x1, x2⟩ hby; clear l0 l1 l2 l3 l4 l5 x1 x2; obtain ⟨⟨l0, l1, l2, l3, l4, l5⟩, x1, x2⟩ := hL; clear hby))
  go_upto_region 12 with (go_at_call 17; refine (Gates_ok a n c ps h _ B (by omega) (HP.out.below (l5.mono hBw)) HC.out k hk HKP.out HKH.out).mono ?_; rintro e wy ⟨ga, gc, rfl, hGA, hby⟩; rw [← HGE.out, ← HGN.out]; rw [← HGN.out, ← HFF.out] at hGA; have HG := Lib.hid hGA; have HX := Lib.hid (And.intro ((HX.out.1.below hby).up hby.size) HX.out.2); have hL := LP_step ⟨⟨l0, l1, l2, l3, l4, l5⟩, x1, x2⟩ hby; clear l0 l1 l2 l3 l4 l5 x1 x2; obtain ⟨⟨l0, l1, l2, l3, l4, l5⟩, x1, x2⟩ := hL; clear hby hGA)
  go_upto_region 13 with (go_at_call 17; refine (Gates_ok xa n xc qs h _ _ (Nat.le_refl _) HX.out.1 HQC.out k hk HKP.out HQH.out).mono ?_; rintro e wy ⟨gb, gd, rfl, hGB, hby⟩; rw [← HGF.out, ← HGM.out]; rw [← HGM.out, ← HGG.out] at hGB; have HGB := Lib.hid hGB; have HG := Lib.hid ((HG.out.below hby).up hby.size); have HX := Lib.hid (And.intro ((HX.out.1.below hby).up hby.size) HX.out.2); have hL := LP_step ⟨⟨l0, l1, l2, l3, l4, l5⟩, x1, x2⟩ hby; clear l0 l1 l2 l3 l4 l5 x1 x2; obtain ⟨⟨l0, l1, l2, l3, l4, l5⟩, x1, x2⟩ := hL; clear hby hGB)
  go_cut [17, 18] from 95 to 100 (fun s17 s18 wx => ∃ y, s17 = .pointer (some ⟨y, 0, none⟩) ∧ s18 = .int .i64 0 ∧ (y < wx.heap.size ∧ wx.cell? ⟨y, 0, none⟩ = some (.int .i64 tl) ∧ wx.cell? ⟨y, 1, none⟩ = some (.int .i64 th)) ∧ LP a n c h w x (.slice xa n xc) wx ∧ Hid (GatesAt wx.heap.size wx ga gn F) ∧ Hid (GatesAt wx.heap.size wx gb gm G) ∧ Hid (Planes wx.heap.size wx xa n qs))
  case first =>
    go_wp2_with (go_at_call 18; refine (Times_ok a n c ps h _ B (by omega) (HP.out.below (l5.mono hBw)) HC.out k hk HKP.out HKH.out).mono ?_; rintro e wy ⟨rfl, hby⟩; rw [← HTL.out, ← HTH.out]; have HG := Lib.hid ((HG.out.below hby).up hby.size); have HGB := Lib.hid ((HGB.out.below hby).up hby.size); have HX := Lib.hid (And.intro ((HX.out.1.below hby).up hby.size) HX.out.2); have hL := LP_step ⟨⟨l0, l1, l2, l3, l4, l5⟩, x1, x2⟩ hby; clear l0 l1 l2 l3 l4 l5 x1 x2; obtain ⟨⟨l0, l1, l2, l3, l4, l5⟩, x1, x2⟩ := hL; clear hby)
    go_meet
    have hba : Below wy.heap.size wy (wy.alloc (.cells #[.int .i64 tl, .int .i64 th] 34)) := (Below.refl _ _).alloc (Nat.le_refl _) _
    exact ⟨_, rfl, rfl, ⟨by simp, by go_simp, by go_simp⟩, LP_step ⟨⟨l0, l1, l2, l3, l4, l5⟩, x1, x2⟩ hba, Lib.hid (old_gates HG.out), Lib.hid (old_gates HGB.out), Lib.hid ((HX.out.1.below hba).up hba.size)⟩
  clear l0 l1 l2 l3 l4 l5 x1 x2 HG HGB HX
  obtain ⟨y, rfl, rfl, ⟨y0, y1, y2⟩, ⟨⟨l0, l1, l2, l3, l4, l5⟩, x1, x2⟩, HG, HGB, HX⟩ := hcut
  go_upto_region 14 with (fail)
  go_cut [19, 20] from 101 to 106 (fun s19 s20 wx => ∃ z, s19 = .pointer (some ⟨z, 0, none⟩) ∧ s20 = .int .i64 0 ∧ (y < wx.heap.size ∧ wx.cell? ⟨y, 0, none⟩ = some (.int .i64 tl) ∧ wx.cell? ⟨y, 1, none⟩ = some (.int .i64 th)) ∧ (z < wx.heap.size ∧ wx.cell? ⟨z, 0, none⟩ = some (.int .i64 sl) ∧ wx.cell? ⟨z, 1, none⟩ = some (.int .i64 sh)) ∧ Hid (LGt a n c h w ga gn F gb gm G wx))
  case first =>
    go_wp2_with (go_at_call 18; refine (Times_ok xa n xc qs h _ _ (Nat.le_refl _) HX.out HQC.out k hk HKP.out HQH.out).mono ?_; rintro e wu ⟨rfl, hby⟩; rw [← HSL.out, ← HSH.out]; have HG := Lib.hid ((HG.out.below hby).up hby.size); have HGB := Lib.hid ((HGB.out.below hby).up hby.size); have hM := LB_x y0 y1 y2 hby; have hL := LP_step ⟨⟨l0, l1, l2, l3, l4, l5⟩, x1, x2⟩ hby; clear l0 l1 l2 l3 l4 l5 x1 x2; obtain ⟨⟨l0, l1, l2, l3, l4, l5⟩, x1, x2⟩ := hL; clear hby)
    go_meet
    have hba : Below wu.heap.size wu (wu.alloc (.cells #[.int .i64 sl, .int .i64 sh] 34)) := (Below.refl _ _).alloc (Nat.le_refl _) _
    exact ⟨_, rfl, rfl, LB_x hM.1 hM.2.1 hM.2.2 hba, ⟨by simp, by go_simp, by go_simp⟩, Lib.hid ⟨LB_alloc ⟨l0, l1, l2, l3, l4, l5⟩ _, old_gates HG.out, old_gates HGB.out⟩⟩
  clear l0 l1 l2 l3 l4 l5 x1 x2 HG HGB HX y0 y1 y2
  obtain ⟨z, rfl, rfl, ⟨y0, y1, y2⟩, ⟨z0, z1, z2⟩, HL⟩ := hcut
  go_wp2
  go_loopw [21] (fun t wr => ∃ i : Nat, i ≤ gm ∧ t = .int .i64 (i : Int) ∧ Hid (LGt a n c h w ga gn F gb gm G wr)) (fun t _ => gm - (intOf t).toNat)
  case atStart => exact ⟨0, Nat.zero_le _, rfl, HL⟩
  case round =>
    clear HL y0 y1 y2 z0 z1 z2
    obtain ⟨i, hi, rfl, HL⟩ := hrel
    by_cases hlt : i < gm
    · have HM := Lib.hid (HMET.out i hlt)
      have HM0 := Lib.hid (show metB F (G i) 0 = false from rfl)
      have HMS := Lib.hid (fun j => show metB F (G i) (j + 1) = (metB F (G i) j || gin (G i) (F j)) from rfl)
      generalize metB F (G i) = MB at *
      obtain ⟨wo, rfl⟩ : ∃ wo : World, wo = wr := ⟨_, rfl⟩
      go_wp2
      go_loopw [23, 22] (fun t s22 wr => ∃ j : Nat, j ≤ gn ∧ t = .int .i64 (j : Int) ∧ s22 = .bool (MB j) ∧ Hid (LGt a n c h w ga gn F gb gm G wr)) (fun t _ _ => gn - (intOf t).toNat)
      case atStart => exact ⟨0, Nat.zero_le _, rfl, by rw [HM0.out], HL⟩
      case round =>
        clear HL
        obtain ⟨j, hj, rfl, rfl, HL⟩ := hrel
        by_cases hjt : j < gn
        · obtain ⟨b1, o1, rfl, hb1, hg1⟩ : ∃ b o, ga = some ⟨b, o, none⟩ ∧ b < wr.heap.size ∧ ∀ i, i < gn → wr.cell? ⟨b, o + i * 3, none⟩ = some (.int .i64 (F i).z) ∧ wr.cell? ⟨b, o + i * 3 + 1, none⟩ = some (.int .i64 (F i).lo) ∧ wr.cell? ⟨b, o + i * 3 + 2, none⟩ = some (.int .i64 (F i).hi) := by
            rcases HL.out.2.1 with e | ⟨b, o, h1, h2, h3⟩
            · omega
            · exact ⟨b, o, h1, h2, h3⟩
          obtain ⟨b2, o2, rfl, hb2, hg2⟩ : ∃ b o, gb = some ⟨b, o, none⟩ ∧ b < wr.heap.size ∧ ∀ i, i < gm → wr.cell? ⟨b, o + i * 3, none⟩ = some (.int .i64 (G i).z) ∧ wr.cell? ⟨b, o + i * 3 + 1, none⟩ = some (.int .i64 (G i).lo) ∧ wr.cell? ⟨b, o + i * 3 + 2, none⟩ = some (.int .i64 (G i).hi) := by
            rcases HL.out.2.2 with e | ⟨b, o, h1, h2, h3⟩
            · omega
            · exact ⟨b, o, h1, h2, h3⟩
          obtain ⟨f0, f1, f2⟩ := hg1 j hjt
          obtain ⟨g0, g1, g2⟩ := hg2 i hlt
          have HMJ := Lib.hid (HMS.out j)
          clear hg1 hg2
          generalize F j = X at *
          generalize G i = Y at *
          generalize MB j = M0 at *
          go_upto_region 24 with (fail)
          cases M0
          · by_cases d1 : Y.z = X.z
            · have d1' : (Y.z == X.z) = true := by simp [d1]
              by_cases d2 : X.lo ≤ Y.lo
              · have d2' : decide (X.lo ≤ Y.lo) = true := decide_eq_true d2
                have HGI := Lib.hid (show gin Y X = decide (Y.hi ≤ X.hi) by rw [gin, d1', d2']; rfl)
                go_quiet (fail)
                go_wp2
                go_roundw
                case rel => exact ⟨j + 1, by omega, by go_num, by rw [HMJ.out, HGI.out]; first | rfl | simp, Lib.hid (LGt_step HL.out (below_drewN (Below.refl _ _) _))⟩
                case measure => simp [intOf]; omega
              · have d2' : decide (X.lo ≤ Y.lo) = false := decide_eq_false d2
                have HGI := Lib.hid (show gin Y X = false by rw [gin, d1', d2']; rfl)
                go_quiet (fail)
                go_wp2
                go_roundw
                case rel => exact ⟨j + 1, by omega, by go_num, by rw [HMJ.out, HGI.out]; rfl, Lib.hid (LGt_step HL.out (below_drewN (Below.refl _ _) _))⟩
                case measure => simp [intOf]; omega
            · have d1' : (Y.z == X.z) = false := by simp [d1]
              have HGI := Lib.hid (show gin Y X = false by rw [gin, d1']; rfl)
              go_quiet (fail)
              go_wp2
              go_roundw
              case rel => exact ⟨j + 1, by omega, by go_num, by rw [HMJ.out, HGI.out]; rfl, Lib.hid (LGt_step HL.out (below_drewN (Below.refl _ _) _))⟩
              case measure => simp [intOf]; omega
          · go_quiet (fail)
            go_wp2
            go_roundw
            case rel => exact ⟨j + 1, by omega, by go_num, by rw [HMJ.out]; rfl, Lib.hid (LGt_step HL.out (below_drewN (Below.refl _ _) _))⟩
            case measure => simp [intOf]; omega
        · obtain rfl : gn = j := by omega
          have hM := HM.out
          rw [hM]
          go_wp2
          go_roundw
          case rel => exact ⟨i + 1, by omega, by go_num, HL⟩
          case measure => simp [intOf]; omega
    · obtain ⟨⟨l0, l1, l2, l3, l4, l5⟩, _, _⟩ := HL.out
      go_wp2_with (go_at_call 16; refine (lawKnown_any _).mono ?_; rintro e wy ⟨rfl, hby⟩; have hL := LB_step ⟨l0, l1, l2, l3, l4, l5⟩ hby; clear l0 l1 l2 l3 l4 l5; obtain ⟨l0, l1, l2, l3, l4, l5⟩ := hL; clear hby)
      go_ret
      exact ⟨rfl, l5⟩
theorem PlaneAligns_any (a : Option Addr) (n c : Nat) (ps : Nat → PR) (oa : Option Addr) (on od : Nat) (os : Nat → SV) (ca : Option Addr) (cn cd : Nat) (cs : Nat → SV) (h : HV) (w : World) (B : Nat) (hBw : B ≤ w.heap.size) (hP : Planes B w a n ps) (hO : Spans B w oa on os ∧ on ≤ od ∧ od ≤ maxLen) (hK : Spans B w ca cn cs ∧ cn ≤ cd ∧ cd ≤ maxLen) : Calls Try.prog 8 #[setupV a n c, .slice oa on od, .slice ca cn cd, h.val] w fun e w' => e = .returned (.bool true) ∧ Below w.heap.size w w' := by
  by_cases hU : smallB n ps = false ∨ 20 < on ∨ 20 < cn
  · exact PA_out a n c ps oa on od os ca cn cd cs h w B hBw hP hO.1 hK.1 hU
  · have hsm : smallB n ps = true := by
      cases e : smallB n ps
      · exact absurd (.inl e) hU
      · rfl
    have h1 : on ≤ 20 := by by_cases e : 20 < on; exact absurd (.inr (.inl e)) hU; omega
    have h2 : cn ≤ 20 := by by_cases e : 20 < cn; exact absurd (.inr (.inr e)) hU; omega
    by_cases hE : (if checkB n ps = true then alignE n ps on os cn cs else 2) = 0
    · by_cases hC : checkB n ps = true
      · rw [if_pos hC] at hE
        exact PA_ok a n c ps oa on od os ca cn cd cs h w B hBw hP hO.1 hK.1 hsm h1 h2 hC hE.symm
      · rw [if_neg hC] at hE; cases hE
    · exact PA_err a n c ps oa on od os ca cn cd cs h w B hBw hP hO.1 hK.1 hsm h1 h2 _ rfl hE
end Go.Proofs.Ytgcepjminlapiaa
