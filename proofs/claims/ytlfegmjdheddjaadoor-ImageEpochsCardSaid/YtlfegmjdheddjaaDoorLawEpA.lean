/- The walk of the statement ImageEpochs: the loop over the images. -/
import Derived.Test.YtlfegmjdheddjaaDoorGxaA
namespace Go.Proofs.YtlfegmjdheddjaaDoor
open Go.RowKit
set_option linter.unusedVariables false
set_option linter.unusedSimpArgs false
theorem ep_rest (a : Option Addr) (t c : Nat) (im : Nat → IM) (ch : Int) (w : World) (h : IsIn a t im w) (h9 : t ≤ 9) (W : World) (u2 u3 u4 u8 u9 u10 u11 u12 u13 u14 u15 u16 u17 u18 u19 u20 u21 u22 u23 u24 u25 u26 u27 u28 u29 u30 u31 u32 u33 u34 u35 u36 u37 u38 u39 u40 u41 u42 u43 u44 u45 u46 u47 u48 u49 u50 u51 u52 u53 u54 u55 u56 u57 u58 u59 u60 u61 u62 u63 u64 u65 u66 u67 u68 u69 u70 u71 u72 u73 u74 u75 u76 u77 u78 u79 u80 u81 u82 u83 u84 u85 u86 u87 u88 u89 u90 u91 u92 u93 u94 u95 u96 u97 u98 u99 u100 u101 u102 u103 u104 u105 u106 u107 u108 u109 u110 u111 u112 u113 u114 u115 u116 u117 u118 u119 u120 u121 u122 u123 u124 u125 u126 u127 u128 u129 u130 u131 u132 u133 u134 u135 u136 u137 u138 u139 u140 u141 u142 u143 u144 u145 u146 u147 u148 u149 u150 u151 u152 u153 u154 u155 u156 u157 u158 u159 u160 u161 u162 u163 u164 u165 u166 u167 u168 u169 u170 u171 u172 u173 u174 u175 u176 u177 u178 u179 u180 u181 u182 u183 u184 u185 u186 u187 u188 u189 u190 u191 u192 u193 u194 u195 u196 u197 u198 u199 u200 u201 u202 u203 u204 u205 u206 u207 u208 u209 u210 u211 u212 u213 u214 u215 u216 u217 u218 u219 u220 u221 u222 u223 u224 u225 u226 u227 u228 u229 : Value) (hb : Below w.heap.size w W) :
    (epFrom 5).wp Tryd.prog (bodyPost Tryd.prog Tryd.f6 (epPost w)) ⟨#[.slice a t c, .int .i64 ch, u2, u3, u4, .bool (epV t ch), .bool (lgB im t), .bool (shB t im t), u8, u9, u10, u11, u12, u13, u14, u15, u16, u17, u18, u19, u20, u21, u22, u23, u24, u25, u26, u27, u28, u29, u30, u31, u32, u33, u34, u35, u36, u37, u38, u39, u40, u41, u42, u43, u44, u45, u46, u47, u48, u49, u50, u51, u52, u53, u54, u55, u56, u57, u58, u59, u60, u61, u62, u63, u64, u65, u66, u67, u68, u69, u70, u71, u72, u73, u74, u75, u76, u77, u78, u79, u80, u81, u82, u83, u84, u85, u86, u87, u88, u89, u90, u91, u92, u93, u94, u95, u96, u97, u98, u99, u100, u101, u102, u103, u104, u105, u106, u107, u108, u109, u110, u111, u112, u113, u114, u115, u116, u117, u118, u119, u120, u121, u122, u123, u124, u125, u126, u127, u128, u129, u130, u131, u132, u133, u134, u135, u136, u137, u138, u139, u140, u141, u142, u143, u144, u145, u146, u147, u148, u149, u150, u151, u152, u153, u154, u155, u156, u157, u158, u159, u160, u161, u162, u163, u164, u165, u166, u167, u168, u169, u170, u171, u172, u173, u174, u175, u176, u177, u178, u179, u180, u181, u182, u183, u184, u185, u186, u187, u188, u189, u190, u191, u192, u193, u194, u195, u196, u197, u198, u199, u200, u201, u202, u203, u204, u205, u206, u207, u208, u209, u210, u211, u212, u213, u214, u215, u216, u217, u218, u219, u220, u221, u222, u223, u224, u225, u226, u227, u228, u229], []⟩ W := by
  by_cases hA : 6 < t ∨ shB t im t = false ∨ lgB im t = true
  · exact ep_A a t c im ch w h h9 hA W _ _ _ _ _ _ _ _ _ _ _ _ _ _ _ _ _ _ _ _ _ _ _ _ _ _ _ _ _ _ _ _ _ _ _ _ _ _ _ _ _ _ _ _ _ _ _ _ _ _ _ _ _ _ _ _ _ _ _ _ _ _ _ _ _ _ _ _ _ _ _ _ _ _ _ _ _ _ _ _ _ _ _ _ _ _ _ _ _ _ _ _ _ _ _ _ _ _ _ _ _ _ _ _ _ _ _ _ _ _ _ _ _ _ _ _ _ _ _ _ _ _ _ _ _ _ _ _ _ _ _ _ _ _ _ _ _ _ _ _ _ _ _ _ _ _ _ _ _ _ _ _ _ _ _ _ _ _ _ _ _ _ _ _ _ _ _ _ _ _ _ _ _ _ _ _ _ _ _ _ _ _ _ _ _ _ _ _ _ _ _ _ _ _ _ _ _ _ _ _ _ _ _ _ _ _ _ _ _ _ _ _ _ _ _ _ _ _ _ _ _ _ _ _ _ hb
  · have h6 : ¬ 6 < t := fun e => hA (.inl e)
    have hs : shB t im t = true := by cases e : shB t im t; exact absurd (.inr (.inl e)) hA; rfl
    have hl : lgB im t = false := by cases e : lgB im t; rfl; exact absurd (.inr (.inr e)) hA
    cases hB : allUpto t (fun i => !(im i).F.isEmpty)
    · exact ep_B a t c im ch w h h6 hs hl hB W _ _ _ _ _ _ _ _ _ _ _ _ _ _ _ _ _ _ _ _ _ _ _ _ _ _ _ _ _ _ _ _ _ _ _ _ _ _ _ _ _ _ _ _ _ _ _ _ _ _ _ _ _ _ _ _ _ _ _ _ _ _ _ _ _ _ _ _ _ _ _ _ _ _ _ _ _ _ _ _ _ _ _ _ _ _ _ _ _ _ _ _ _ _ _ _ _ _ _ _ _ _ _ _ _ _ _ _ _ _ _ _ _ _ _ _ _ _ _ _ _ _ _ _ _ _ _ _ _ _ _ _ _ _ _ _ _ _ _ _ _ _ _ _ _ _ _ _ _ _ _ _ _ _ _ _ _ _ _ _ _ _ _ _ _ _ _ _ _ _ _ _ _ _ _ _ _ _ _ _ _ _ _ _ _ _ _ _ _ _ _ _ _ _ _ _ _ _ _ _ _ _ _ _ _ _ _ _ _ _ _ _ _ _ _ _ _ _ _ _ _ _ _ _ _ hb
    · have hc : EpC t im := ⟨(shB_iff.1 hs).1, by omega, ep_good hs hl, fun i hi e => by
        have := allUpto_iff.1 hB i hi
        rw [e] at this
        cases this⟩
      have hv : epV t ch = inB ch 0 1000 := by unfold epV; rw [decide_eq_true (shB_iff.1 hs).1, Bool.true_and]
      rw [hs, hl, hv]
      cases hf : inB ch 0 1000
      · exact ep_C2 a t c im ch w h hc (by rw [hf]; exact ep_fine h6) W _ _ _ _ _ _ _ _ _ _ _ _ _ _ _ _ _ _ _ _ _ _ _ _ _ _ _ _ _ _ _ _ _ _ _ _ _ _ _ _ _ _ _ _ _ _ _ _ _ _ _ _ _ _ _ _ _ _ _ _ _ _ _ _ _ _ _ _ _ _ _ _ _ _ _ _ _ _ _ _ _ _ _ _ _ _ _ _ _ _ _ _ _ _ _ _ _ _ _ _ _ _ _ _ _ _ _ _ _ _ _ _ _ _ _ _ _ _ _ _ _ _ _ _ _ _ _ _ _ _ _ _ _ _ _ _ _ _ _ _ _ _ _ _ _ _ _ _ _ _ _ _ _ _ _ _ _ _ _ _ _ _ _ _ _ _ _ _ _ _ _ _ _ _ _ _ _ _ _ _ _ _ _ _ _ _ _ _ _ _ _ _ _ _ _ _ _ _ _ _ _ _ _ _ _ _ _ _ _ _ _ _ _ _ _ _ _ _ _ _ _ _ _ _ _ hb
      · by_cases hH : histF (im 0).cn ch (fun i => (im i).F) t 0 = []
        · exact ep_C1 a t c im ch w h hc (inB_iff.1 hf) hH W _ _ _ _ _ _ _ _ _ _ _ _ _ _ _ _ _ _ _ _ _ _ _ _ _ _ _ _ _ _ _ _ _ _ _ _ _ _ _ _ _ _ _ _ _ _ _ _ _ _ _ _ _ _ _ _ _ _ _ _ _ _ _ _ _ _ _ _ _ _ _ _ _ _ _ _ _ _ _ _ _ _ _ _ _ _ _ _ _ _ _ _ _ _ _ _ _ _ _ _ _ _ _ _ _ _ _ _ _ _ _ _ _ _ _ _ _ _ _ _ _ _ _ _ _ _ _ _ _ _ _ _ _ _ _ _ _ _ _ _ _ _ _ _ _ _ _ _ _ _ _ _ _ _ _ _ _ _ _ _ _ _ _ _ _ _ _ _ _ _ _ _ _ _ _ _ _ _ _ _ _ _ _ _ _ _ _ _ _ _ _ _ _ _ _ _ _ _ _ _ _ _ _ _ _ _ _ _ _ _ _ _ _ _ _ _ _ _ _ _ _ _ _ _ _ hb
        · exact ep_C0 a t c im ch w h hc (inB_iff.1 hf) hH W _ _ _ _ _ _ _ _ _ _ _ _ _ _ _ _ _ _ _ _ _ _ _ _ _ _ _ _ _ _ _ _ _ _ _ _ _ _ _ _ _ _ _ _ _ _ _ _ _ _ _ _ _ _ _ _ _ _ _ _ _ _ _ _ _ _ _ _ _ _ _ _ _ _ _ _ _ _ _ _ _ _ _ _ _ _ _ _ _ _ _ _ _ _ _ _ _ _ _ _ _ _ _ _ _ _ _ _ _ _ _ _ _ _ _ _ _ _ _ _ _ _ _ _ _ _ _ _ _ _ _ _ _ _ _ _ _ _ _ _ _ _ _ _ _ _ _ _ _ _ _ _ _ _ _ _ _ _ _ _ _ _ _ _ _ _ _ _ _ _ _ _ _ _ _ _ _ _ _ _ _ _ _ _ _ _ _ _ _ _ _ _ _ _ _ _ _ _ _ _ _ _ _ _ _ _ _ _ _ _ _ _ _ _ _ _ _ _ _ _ _ _ _ _ _ hb
set_option maxRecDepth 100000 in
set_option maxHeartbeats 4000000 in
theorem Ep_loop (a : Option Addr) (t c : Nat) (im : Nat → IM) (ch : Int) (w : World) (h : IsIn a t im w) (hq : ¬ (4 < t ∧ t ≤ 6)) (h9 : t ≤ 9) :
    Calls Tryd.prog 6 #[.slice a t c, .int .i64 ch] w (epPost w) := by
  have HH := Lib.hid h
  have HKN := Lib.hid (fun (W : World) (hb : Below w.heap.size w W) => h.known hb)
  have HI := Lib.hid h.imgs
  have HSH0 := Lib.hid (fun (i : Nat) (hi : i < t) (W : World) (hb : Below w.heap.size w W) => h.shortC hi hb)
  have HSP0 := Lib.hid (fun (i : Nat) (hi : i < t) (W : World) (hb : Below w.heap.size w W) => h.shapeC hi hb)
  have HFD0 := Lib.hid (fun (i : Nat) (hi : i < t) (hs : (im i).shape = true) (W : World) (hb : Below w.heap.size w W) => h.fieldsC hi hs hb)
  have HS0 := Lib.hid (show shB t im 0 = decide (1 ≤ t) from by unfold shB; simp [allUpto])
  have h9' : ¬ (9 : Int) < (t : Int) := by omega
  have HQ := Lib.hid hq
  generalize hres : epPost w = RES
  have HR := Lib.hid (fun (w' : World) (hb : Below w.heap.size w w') => show RES (.returned (.bool true)) w' from hres ▸ ⟨rfl, hb⟩)
  have HRES := Lib.hid hres
  clear h hres hq
  go_enter Tryd.func6, Tryd.ntmps6
  go_upto_region 1 with (fail)
  go_cut [29] from 17 to 29 (fun s29 wx => s29 = .bool false ∧ wx = w)
  case first =>
    by_cases h4 : 4 < t
    · have h4' : (4 : Int) < (t : Int) := by omega
      have h6' : ¬ (t : Int) ≤ 6 := by have := HQ.out; omega
      go_wp2
      go_meet
      exact ⟨rfl, rfl⟩
    · have h4' : ¬ (4 : Int) < (t : Int) := by omega
      go_wp2
      go_meet
      exact ⟨rfl, rfl⟩
  case rest =>
    obtain ⟨rfl, rfl⟩ := hcut
    go_upto_region 3 with (fail)
    go_cut [5, 6] from 31 to 41 (fun s5 s6 wx => s5 = .bool (epV t ch) ∧ s6 = .bool false ∧ wx = wc)
    case first =>
      have HV := Lib.hid (show epV t ch = (decide (1 ≤ t) && inB ch 0 1000) from rfl)
      by_cases h1 : 1 ≤ t
      · have h1' : (1 : Int) ≤ (t : Int) := by omega
        have h1b : decide (1 ≤ t) = true := decide_eq_true h1
        rw [h1b, Bool.true_and] at HV
        by_cases h2 : 0 ≤ ch
        · by_cases h3 : ch ≤ 1000
          · rw [inB_iff.2 ⟨h2, h3⟩] at HV
            go_wp2
            go_meet
            exact ⟨by rw [HV.out], rfl, rfl⟩
          · have hin : inB ch 0 1000 = false := by cases e : inB ch 0 1000; rfl; have := inB_iff.1 e; omega
            rw [hin] at HV
            go_wp2
            go_meet
            exact ⟨by rw [HV.out], rfl, rfl⟩
        · have hin : inB ch 0 1000 = false := by cases e : inB ch 0 1000; rfl; have := inB_iff.1 e; omega
          rw [hin] at HV
          go_wp2
          go_meet
          exact ⟨by rw [HV.out], rfl, rfl⟩
      · have h1' : ¬ (1 : Int) ≤ (t : Int) := by omega
        have h1b : decide (1 ≤ t) = false := decide_eq_false h1
        rw [h1b, Bool.false_and] at HV
        go_wp2
        go_meet
        exact ⟨by rw [HV.out], rfl, rfl⟩
    case rest =>
      obtain ⟨rfl, rfl, rfl⟩ := hcut
      rename World => w0
      go_upto_block 0 with (fail)
      go_cut [6, 7] from 8 to 118 (fun s6 s7 wx => s6 = .bool (lgB im t) ∧ s7 = .bool (shB t im t) ∧ Hid ((∀ j, j < t → quitI (im j) = false) ∧ Below w0.heap.size w0 wx))
      case first =>
        go_wp2
        go_loopw [6, 7, 8] (fun s6 s7 s8 wr => ∃ i : Nat, i ≤ t ∧ s8 = .int .i64 (i : Int) ∧ s6 = .bool (lgB im i) ∧ s7 = .bool (shB t im i) ∧ Hid ((∀ j, j < i → quitI (im j) = false) ∧ Below w0.heap.size w0 wr)) (fun _ _ s8 _ => t - (intOf s8).toNat)
        case atStart => exact ⟨0, Nat.zero_le _, rfl, rfl, by rw [HS0.out]; exact congrArg Value.bool (decide_eq_decide.2 (by omega)), Lib.hid ⟨fun j hj => by omega, Below.refl _ _⟩⟩
        case round =>
          obtain ⟨i, hi, rfl, rfl, rfl, HX⟩ := hrel
          by_cases hlt : i < t
          · have hlt' : (i : Int) < (t : Int) := by omega
            have h0t : (0 : Int) < (t : Int) := by omega
            have HSH := Lib.hid (HSH0.out i hlt)
            have HSP := Lib.hid (HSP0.out i hlt)
            have HFD1 := Lib.hid (HFD0.out i hlt)
            have HB := Lib.hid HX.out.2
            have HNQ1 := Lib.hid (fun (e : quitI (im i) = false) (j : Nat) (hj : j < i + 1) => show quitI (im j) = false from by (by_cases e2 : j = i; (subst e2; exact e); exact HX.out.1 j (by omega)))
            have HQI := Lib.hid (show quitI (im i) = (!(im i).short || ((im i).shape && decide (200 < (im i).fields) && decide ((im i).fields ≤ 1000))) from rfl)
            obtain ⟨xb, xo, hxa, hxB, x0, x1, _, _⟩ := (HI.out.below HB.out).get hlt
            obtain ⟨xb', xo', hxa', _, y0, _⟩ := (HI.out.below HB.out).get (i := 0) (by omega)
            subst hxa
            injection hxa' with hxa'
            injection hxa' with e1 e2 _
            subst e1 e2
            rw [Nat.zero_mul, Nat.add_zero] at y0
            have hxr : xb < wr.heap.size := by have := HB.out.size; omega
            have HLG := Lib.hid (lgB_succ (im := im) (i := i))
            have HSB := Lib.hid (shB_succ (t := t) (im := im) (i := i))
            clear HX
            generalize lgB im i = lg at *
            generalize shB t im i = sh at *
            generalize (im i).short = xs at *
            generalize hxsp : (im i).shape = xsp at *
            generalize (im i).fields = F at *
            generalize (im i).cn = ni at *
            generalize (im 0).cn = n0 at *
            have HXSP := Lib.hid hxsp
            clear hxsp
            cases xs
            · clear HLG HSB HNQ1 HQI HFD1 y0
              go_wp2_with (first | (go_at_call 17; refine (HSH.out _ HB.out).mono ?_; rintro e w2 ⟨rfl, hb2⟩; have HB2 := Lib.hid (HB.out.trans (hb2.mono HB.out.size))) | (go_at_call 11; refine (HKN.out _ HB2.out).mono ?_; rintro e w5 ⟨rfl, hb5⟩))
              exact HR.out _ (HB2.out.trans (hb5.mono HB2.out.size))
            · cases xsp
              · rw [Bool.false_and, Bool.or_false] at HLG
                rw [Bool.false_and, Bool.and_false] at HSB
                have HNQ := Lib.hid (HNQ1.out (by rw [HQI.out]; rfl))
                clear HNQ1 HQI HFD1
                go_upto_region 10 with (first | (go_at_call 17; refine (HSH.out _ HB.out).mono ?_; rintro e w2 ⟨rfl, hb2⟩; have HBx := Lib.hid (HB.out.trans ((hb2).mono HB.out.size)); have x0x := ((bcell hb2).1 xb (xo + i * 2) hxr).trans x0; have x1x := ((bcell hb2).1 xb (xo + i * 2 + 1) hxr).trans x1; have y0x := ((bcell hb2).1 xb xo hxr).trans y0; have hxrx := Nat.lt_of_lt_of_le hxr (hb2).size; clear HB x0 x1 y0 hxr; have HB := HBx; have x0 := x0x; have x1 := x1x; have y0 := y0x; have hxr := hxrx; clear HBx x0x x1x y0x hxrx; clear hb2) | (go_at_call 28; refine (HSP.out _ HB.out).mono ?_; rintro e w3 ⟨rfl, hb3⟩; have HBx := Lib.hid (HB.out.trans ((hb3).mono HB.out.size)); have x0x := ((bcell hb3).1 xb (xo + i * 2) hxr).trans x0; have x1x := ((bcell hb3).1 xb (xo + i * 2 + 1) hxr).trans x1; have y0x := ((bcell hb3).1 xb xo hxr).trans y0; have hxrx := Nat.lt_of_lt_of_le hxr (hb3).size; clear HB x0 x1 y0 hxr; have HB := HBx; have x0 := x0x; have x1 := x1x; have y0 := y0x; have hxr := hxrx; clear HBx x0x x1x y0x hxrx; clear hb3) | (go_at_call 18; refine (HFD.out _ HB.out).mono ?_; rintro e w4 ⟨rfl, hb4⟩; have HBx := Lib.hid (HB.out.trans ((hb4).mono HB.out.size)); have x0x := ((bcell hb4).1 xb (xo + i * 2) hxr).trans x0; have x1x := ((bcell hb4).1 xb (xo + i * 2 + 1) hxr).trans x1; have y0x := ((bcell hb4).1 xb xo hxr).trans y0; have hxrx := Nat.lt_of_lt_of_le hxr (hb4).size; clear HB x0 x1 y0 hxr; have HB := HBx; have x0 := x0x; have x1 := x1x; have y0 := y0x; have hxr := hxrx; clear HBx x0x x1x y0x hxrx; clear hb4)); rename World => wz; go_cut [7] from 81 to 102 (fun s7 wx => s7 = .bool (shB t im (i + 1)) ∧ Hid (Below wz.heap.size wz wx))
                case first =>
                  cases sh
                  · ((refine wp_region_calm (wz.heap.size) (by kernel_rfl) (by kernel_rfl) ?_; (repeat (first | go_big_quiet_step ((go_at_call 28; exact Calls.calm_of (Nat.le_refl _) (HSP.out _ (HB.out.trans ((Calm.below _).mono HB.out.size))))) | quiet_step ((go_at_call 28; exact Calls.calm_of (Nat.le_refl _) (HSP.out _ (HB.out.trans ((Calm.below _).mono HB.out.size))))))); refine wpQuiet_nil ?_; intro _ hw'; obtain ⟨xq, hw''⟩ := hw'; subst hw''); go_wp2; go_meet; exact ⟨by rw [HSB.out], Lib.hid (Calm.below xq)⟩)
                  · ((refine wp_region_calm (wz.heap.size) (by kernel_rfl) (by kernel_rfl) ?_; (repeat (first | go_big_quiet_step ((go_at_call 28; exact Calls.calm_of (Nat.le_refl _) (HSP.out _ (HB.out.trans ((Calm.below _).mono HB.out.size))))) | quiet_step ((go_at_call 28; exact Calls.calm_of (Nat.le_refl _) (HSP.out _ (HB.out.trans ((Calm.below _).mono HB.out.size))))))); refine wpQuiet_nil ?_; intro _ hw'; obtain ⟨xq, hw''⟩ := hw'; subst hw''); go_wp2; go_meet; exact ⟨by rw [HSB.out], Lib.hid (Calm.below xq)⟩)
                case rest =>
                  (have hbc := hcut.2.out; obtain ⟨rfl, _⟩ := hcut; have HBx := Lib.hid (HB.out.trans ((hbc).mono HB.out.size)); have x0x := ((bcell hbc).1 xb (xo + i * 2) hxr).trans x0; have x1x := ((bcell hbc).1 xb (xo + i * 2 + 1) hxr).trans x1; have y0x := ((bcell hbc).1 xb xo hxr).trans y0; have hxrx := Nat.lt_of_lt_of_le hxr (hbc).size; clear HB x0 x1 y0 hxr; have HB := HBx; have x0 := x0x; have x1 := x1x; have y0 := y0x; have hxr := hxrx; clear HBx x0x x1x y0x hxrx; clear hbc)
                  cases lg
                  · (go_wp2_with (first | (go_at_call 28; refine (HSP.out _ HB.out).mono ?_; rintro e w3 ⟨rfl, hb3⟩; have HBx := Lib.hid (HB.out.trans ((hb3).mono HB.out.size)); have x0x := ((bcell hb3).1 xb (xo + i * 2) hxr).trans x0; have x1x := ((bcell hb3).1 xb (xo + i * 2 + 1) hxr).trans x1; have y0x := ((bcell hb3).1 xb xo hxr).trans y0; have hxrx := Nat.lt_of_lt_of_le hxr (hb3).size; clear HB x0 x1 y0 hxr; have HB := HBx; have x0 := x0x; have x1 := x1x; have y0 := y0x; have hxr := hxrx; clear HBx x0x x1x y0x hxrx; clear hb3) | (go_at_call 18; refine (HFD.out _ HB.out).mono ?_; rintro e w4 ⟨rfl, hb4⟩; have HBx := Lib.hid (HB.out.trans ((hb4).mono HB.out.size)); have x0x := ((bcell hb4).1 xb (xo + i * 2) hxr).trans x0; have x1x := ((bcell hb4).1 xb (xo + i * 2 + 1) hxr).trans x1; have y0x := ((bcell hb4).1 xb xo hxr).trans y0; have hxrx := Nat.lt_of_lt_of_le hxr (hb4).size; clear HB x0 x1 y0 hxr; have HB := HBx; have x0 := x0x; have x1 := x1x; have y0 := y0x; have hxr := hxrx; clear HBx x0x x1x y0x hxrx; clear hb4)); go_roundw; (case rel => exact ⟨i + 1, by omega, by go_num, by (first | (rw [HLG.out]; done) | (rw [HLG.out, HDF.out]; done)), rfl, Lib.hid ⟨HNQ.out, HB.out⟩⟩); (case measure => (simp [intOf]; omega)))
                  · (go_wp2_with (first | (go_at_call 28; refine (HSP.out _ HB.out).mono ?_; rintro e w3 ⟨rfl, hb3⟩; have HBx := Lib.hid (HB.out.trans ((hb3).mono HB.out.size)); have x0x := ((bcell hb3).1 xb (xo + i * 2) hxr).trans x0; have x1x := ((bcell hb3).1 xb (xo + i * 2 + 1) hxr).trans x1; have y0x := ((bcell hb3).1 xb xo hxr).trans y0; have hxrx := Nat.lt_of_lt_of_le hxr (hb3).size; clear HB x0 x1 y0 hxr; have HB := HBx; have x0 := x0x; have x1 := x1x; have y0 := y0x; have hxr := hxrx; clear HBx x0x x1x y0x hxrx; clear hb3) | (go_at_call 18; refine (HFD.out _ HB.out).mono ?_; rintro e w4 ⟨rfl, hb4⟩; have HBx := Lib.hid (HB.out.trans ((hb4).mono HB.out.size)); have x0x := ((bcell hb4).1 xb (xo + i * 2) hxr).trans x0; have x1x := ((bcell hb4).1 xb (xo + i * 2 + 1) hxr).trans x1; have y0x := ((bcell hb4).1 xb xo hxr).trans y0; have hxrx := Nat.lt_of_lt_of_le hxr (hb4).size; clear HB x0 x1 y0 hxr; have HB := HBx; have x0 := x0x; have x1 := x1x; have y0 := y0x; have hxr := hxrx; clear HBx x0x x1x y0x hxrx; clear hb4)); go_roundw; (case rel => exact ⟨i + 1, by omega, by go_num, by (first | (rw [HLG.out]; done) | (rw [HLG.out, HDF.out]; done)), rfl, Lib.hid ⟨HNQ.out, HB.out⟩⟩); (case measure => (simp [intOf]; omega)))
              · have HFD := Lib.hid (HFD1.out rfl)
                rw [Bool.true_and] at HLG HSB HQI
                clear HFD1 HXSP
                by_cases hF2 : 200 < F
                · by_cases hF3 : F ≤ 1000
                  · clear HLG HSB HNQ1 HQI y0
                    go_wp2_with (first | (go_at_call 17; refine (HSH.out _ HB.out).mono ?_; rintro e w2 ⟨rfl, hb2⟩; have HB2 := Lib.hid (HB.out.trans (hb2.mono HB.out.size)); have x0a := ((bcell hb2).1 xb _ hxr).trans x0; have x1a := ((bcell hb2).1 xb _ hxr).trans x1; have hxra := Nat.lt_of_lt_of_le hxr hb2.size; clear x0 x1 hxr) | (go_at_call 28; refine (HSP.out _ HB2.out).mono ?_; rintro e w3 ⟨rfl, hb3⟩; have HB3 := Lib.hid (HB2.out.trans (hb3.mono HB2.out.size)); have x0b := ((bcell hb3).1 xb _ hxra).trans x0a; have x1b := ((bcell hb3).1 xb _ hxra).trans x1a; have hxrb := Nat.lt_of_lt_of_le hxra hb3.size; clear x0a x1a hxra) | (go_at_call 18; first | (refine (HFD.out _ HB4.out).mono ?_; rintro e w5 ⟨rfl, hb5⟩; have HB5 := Lib.hid (HB4.out.trans (hb5.mono HB4.out.size))) | (refine (HFD.out _ HB3.out).mono ?_; rintro e w4 ⟨rfl, hb4⟩; have HB4 := Lib.hid (HB3.out.trans (hb4.mono HB3.out.size)); have x0c := ((bcell hb4).1 xb _ hxrb).trans x0b; have x1c := ((bcell hb4).1 xb _ hxrb).trans x1b; have hxrc := Nat.lt_of_lt_of_le hxrb hb4.size; clear x0b x1b hxrb)) | (go_at_call 11; refine (HKN.out _ HB5.out).mono ?_; rintro e w6 ⟨rfl, hb6⟩))
                    exact HR.out _ (HB5.out.trans (hb6.mono HB5.out.size))
                  · have hF4 : 1000 < F := by omega
                    have HNQ := Lib.hid (HNQ1.out (by rw [HQI.out, decide_eq_false hF3]; simp))
                    have HDF := Lib.hid (decide_eq_true hF4)
                    rw [decide_eq_true hF4, Bool.or_true] at HLG
                    clear HNQ1 HQI
                    go_upto_region 10 with (first | (go_at_call 17; refine (HSH.out _ HB.out).mono ?_; rintro e w2 ⟨rfl, hb2⟩; have HBx := Lib.hid (HB.out.trans ((hb2).mono HB.out.size)); have x0x := ((bcell hb2).1 xb (xo + i * 2) hxr).trans x0; have x1x := ((bcell hb2).1 xb (xo + i * 2 + 1) hxr).trans x1; have y0x := ((bcell hb2).1 xb xo hxr).trans y0; have hxrx := Nat.lt_of_lt_of_le hxr (hb2).size; clear HB x0 x1 y0 hxr; have HB := HBx; have x0 := x0x; have x1 := x1x; have y0 := y0x; have hxr := hxrx; clear HBx x0x x1x y0x hxrx; clear hb2) | (go_at_call 28; refine (HSP.out _ HB.out).mono ?_; rintro e w3 ⟨rfl, hb3⟩; have HBx := Lib.hid (HB.out.trans ((hb3).mono HB.out.size)); have x0x := ((bcell hb3).1 xb (xo + i * 2) hxr).trans x0; have x1x := ((bcell hb3).1 xb (xo + i * 2 + 1) hxr).trans x1; have y0x := ((bcell hb3).1 xb xo hxr).trans y0; have hxrx := Nat.lt_of_lt_of_le hxr (hb3).size; clear HB x0 x1 y0 hxr; have HB := HBx; have x0 := x0x; have x1 := x1x; have y0 := y0x; have hxr := hxrx; clear HBx x0x x1x y0x hxrx; clear hb3) | (go_at_call 18; refine (HFD.out _ HB.out).mono ?_; rintro e w4 ⟨rfl, hb4⟩; have HBx := Lib.hid (HB.out.trans ((hb4).mono HB.out.size)); have x0x := ((bcell hb4).1 xb (xo + i * 2) hxr).trans x0; have x1x := ((bcell hb4).1 xb (xo + i * 2 + 1) hxr).trans x1; have y0x := ((bcell hb4).1 xb xo hxr).trans y0; have hxrx := Nat.lt_of_lt_of_le hxr (hb4).size; clear HB x0 x1 y0 hxr; have HB := HBx; have x0 := x0x; have x1 := x1x; have y0 := y0x; have hxr := hxrx; clear HBx x0x x1x y0x hxrx; clear hb4)); rename World => wz; go_cut [7] from 81 to 102 (fun s7 wx => s7 = .bool (shB t im (i + 1)) ∧ Hid (Below wz.heap.size wz wx))
                    case first => (cases sh; (rw [Bool.false_and] at HSB; ((refine wp_region_calm (wz.heap.size) (by kernel_rfl) (by kernel_rfl) ?_; (repeat (first | go_big_quiet_step ((go_at_call 28; exact Calls.calm_of (Nat.le_refl _) (HSP.out _ (HB.out.trans ((Calm.below _).mono HB.out.size))))) | quiet_step ((go_at_call 28; exact Calls.calm_of (Nat.le_refl _) (HSP.out _ (HB.out.trans ((Calm.below _).mono HB.out.size))))))); refine wpQuiet_nil ?_; intro _ hw'; obtain ⟨xq, hw''⟩ := hw'; subst hw''); go_wp2; go_meet; exact ⟨by rw [HSB.out], Lib.hid (Calm.below xq)⟩)); (rw [Bool.true_and] at HSB; by_cases hnn : ni = n0; (subst hnn; rw [beq_self_eq_true] at HSB; ((refine wp_region_calm (wz.heap.size) (by kernel_rfl) (by kernel_rfl) ?_; (repeat (first | go_big_quiet_step ((go_at_call 28; exact Calls.calm_of (Nat.le_refl _) (HSP.out _ (HB.out.trans ((Calm.below _).mono HB.out.size))))) | quiet_step ((go_at_call 28; exact Calls.calm_of (Nat.le_refl _) (HSP.out _ (HB.out.trans ((Calm.below _).mono HB.out.size))))))); refine wpQuiet_nil ?_; intro _ hw'; obtain ⟨xq, hw''⟩ := hw'; subst hw''); go_wp2; go_meet; exact ⟨by rw [HSB.out], Lib.hid (Calm.below xq)⟩)); (have hne : ((ni : Int) == (n0 : Int)) = false := (by rw [beq_eq_false_iff_ne]; omega); rw [show (ni == n0) = false from (by rw [beq_eq_false_iff_ne]; exact hnn)] at HSB; ((refine wp_region_calm (wz.heap.size) (by kernel_rfl) (by kernel_rfl) ?_; (repeat (first | go_big_quiet_step ((go_at_call 28; exact Calls.calm_of (Nat.le_refl _) (HSP.out _ (HB.out.trans ((Calm.below _).mono HB.out.size))))) | quiet_step ((go_at_call 28; exact Calls.calm_of (Nat.le_refl _) (HSP.out _ (HB.out.trans ((Calm.below _).mono HB.out.size))))))); refine wpQuiet_nil ?_; intro _ hw'; obtain ⟨xq, hw''⟩ := hw'; subst hw''); go_wp2; go_meet; exact ⟨by rw [HSB.out], Lib.hid (Calm.below xq)⟩))))
                    case rest =>
                      (have hbc := hcut.2.out; obtain ⟨rfl, _⟩ := hcut; have HBx := Lib.hid (HB.out.trans ((hbc).mono HB.out.size)); have x0x := ((bcell hbc).1 xb (xo + i * 2) hxr).trans x0; have x1x := ((bcell hbc).1 xb (xo + i * 2 + 1) hxr).trans x1; have y0x := ((bcell hbc).1 xb xo hxr).trans y0; have hxrx := Nat.lt_of_lt_of_le hxr (hbc).size; clear HB x0 x1 y0 hxr; have HB := HBx; have x0 := x0x; have x1 := x1x; have y0 := y0x; have hxr := hxrx; clear HBx x0x x1x y0x hxrx; clear hbc)
                      cases lg
                      · (go_wp2_with (first | (go_at_call 28; refine (HSP.out _ HB.out).mono ?_; rintro e w3 ⟨rfl, hb3⟩; have HBx := Lib.hid (HB.out.trans ((hb3).mono HB.out.size)); have x0x := ((bcell hb3).1 xb (xo + i * 2) hxr).trans x0; have x1x := ((bcell hb3).1 xb (xo + i * 2 + 1) hxr).trans x1; have y0x := ((bcell hb3).1 xb xo hxr).trans y0; have hxrx := Nat.lt_of_lt_of_le hxr (hb3).size; clear HB x0 x1 y0 hxr; have HB := HBx; have x0 := x0x; have x1 := x1x; have y0 := y0x; have hxr := hxrx; clear HBx x0x x1x y0x hxrx; clear hb3) | (go_at_call 18; refine (HFD.out _ HB.out).mono ?_; rintro e w4 ⟨rfl, hb4⟩; have HBx := Lib.hid (HB.out.trans ((hb4).mono HB.out.size)); have x0x := ((bcell hb4).1 xb (xo + i * 2) hxr).trans x0; have x1x := ((bcell hb4).1 xb (xo + i * 2 + 1) hxr).trans x1; have y0x := ((bcell hb4).1 xb xo hxr).trans y0; have hxrx := Nat.lt_of_lt_of_le hxr (hb4).size; clear HB x0 x1 y0 hxr; have HB := HBx; have x0 := x0x; have x1 := x1x; have y0 := y0x; have hxr := hxrx; clear HBx x0x x1x y0x hxrx; clear hb4)); go_roundw; (case rel => exact ⟨i + 1, by omega, by go_num, by (first | (rw [HLG.out]; done) | (rw [HLG.out, HDF.out]; done)), rfl, Lib.hid ⟨HNQ.out, HB.out⟩⟩); (case measure => (simp [intOf]; omega)))
                      · (go_wp2_with (first | (go_at_call 28; refine (HSP.out _ HB.out).mono ?_; rintro e w3 ⟨rfl, hb3⟩; have HBx := Lib.hid (HB.out.trans ((hb3).mono HB.out.size)); have x0x := ((bcell hb3).1 xb (xo + i * 2) hxr).trans x0; have x1x := ((bcell hb3).1 xb (xo + i * 2 + 1) hxr).trans x1; have y0x := ((bcell hb3).1 xb xo hxr).trans y0; have hxrx := Nat.lt_of_lt_of_le hxr (hb3).size; clear HB x0 x1 y0 hxr; have HB := HBx; have x0 := x0x; have x1 := x1x; have y0 := y0x; have hxr := hxrx; clear HBx x0x x1x y0x hxrx; clear hb3) | (go_at_call 18; refine (HFD.out _ HB.out).mono ?_; rintro e w4 ⟨rfl, hb4⟩; have HBx := Lib.hid (HB.out.trans ((hb4).mono HB.out.size)); have x0x := ((bcell hb4).1 xb (xo + i * 2) hxr).trans x0; have x1x := ((bcell hb4).1 xb (xo + i * 2 + 1) hxr).trans x1; have y0x := ((bcell hb4).1 xb xo hxr).trans y0; have hxrx := Nat.lt_of_lt_of_le hxr (hb4).size; clear HB x0 x1 y0 hxr; have HB := HBx; have x0 := x0x; have x1 := x1x; have y0 := y0x; have hxr := hxrx; clear HBx x0x x1x y0x hxrx; clear hb4)); go_roundw; (case rel => exact ⟨i + 1, by omega, by go_num, by (first | (rw [HLG.out]; done) | (rw [HLG.out, HDF.out]; done)), rfl, Lib.hid ⟨HNQ.out, HB.out⟩⟩); (case measure => (simp [intOf]; omega)))
                · have hF4 : ¬ 1000 < F := by omega
                  have HNQ := Lib.hid (HNQ1.out (by rw [HQI.out, decide_eq_false hF2]; simp))
                  have HDF := Lib.hid (decide_eq_false hF4)
                  rw [decide_eq_false hF4, Bool.or_false] at HLG
                  clear HNQ1 HQI
                  go_upto_region 10 with (first | (go_at_call 17; refine (HSH.out _ HB.out).mono ?_; rintro e w2 ⟨rfl, hb2⟩; have HBx := Lib.hid (HB.out.trans ((hb2).mono HB.out.size)); have x0x := ((bcell hb2).1 xb (xo + i * 2) hxr).trans x0; have x1x := ((bcell hb2).1 xb (xo + i * 2 + 1) hxr).trans x1; have y0x := ((bcell hb2).1 xb xo hxr).trans y0; have hxrx := Nat.lt_of_lt_of_le hxr (hb2).size; clear HB x0 x1 y0 hxr; have HB := HBx; have x0 := x0x; have x1 := x1x; have y0 := y0x; have hxr := hxrx; clear HBx x0x x1x y0x hxrx; clear hb2) | (go_at_call 28; refine (HSP.out _ HB.out).mono ?_; rintro e w3 ⟨rfl, hb3⟩; have HBx := Lib.hid (HB.out.trans ((hb3).mono HB.out.size)); have x0x := ((bcell hb3).1 xb (xo + i * 2) hxr).trans x0; have x1x := ((bcell hb3).1 xb (xo + i * 2 + 1) hxr).trans x1; have y0x := ((bcell hb3).1 xb xo hxr).trans y0; have hxrx := Nat.lt_of_lt_of_le hxr (hb3).size; clear HB x0 x1 y0 hxr; have HB := HBx; have x0 := x0x; have x1 := x1x; have y0 := y0x; have hxr := hxrx; clear HBx x0x x1x y0x hxrx; clear hb3) | (go_at_call 18; refine (HFD.out _ HB.out).mono ?_; rintro e w4 ⟨rfl, hb4⟩; have HBx := Lib.hid (HB.out.trans ((hb4).mono HB.out.size)); have x0x := ((bcell hb4).1 xb (xo + i * 2) hxr).trans x0; have x1x := ((bcell hb4).1 xb (xo + i * 2 + 1) hxr).trans x1; have y0x := ((bcell hb4).1 xb xo hxr).trans y0; have hxrx := Nat.lt_of_lt_of_le hxr (hb4).size; clear HB x0 x1 y0 hxr; have HB := HBx; have x0 := x0x; have x1 := x1x; have y0 := y0x; have hxr := hxrx; clear HBx x0x x1x y0x hxrx; clear hb4)); rename World => wz; go_cut [7] from 81 to 102 (fun s7 wx => s7 = .bool (shB t im (i + 1)) ∧ Hid (Below wz.heap.size wz wx))
                  case first => (cases sh; (rw [Bool.false_and] at HSB; ((refine wp_region_calm (wz.heap.size) (by kernel_rfl) (by kernel_rfl) ?_; (repeat (first | go_big_quiet_step ((go_at_call 28; exact Calls.calm_of (Nat.le_refl _) (HSP.out _ (HB.out.trans ((Calm.below _).mono HB.out.size))))) | quiet_step ((go_at_call 28; exact Calls.calm_of (Nat.le_refl _) (HSP.out _ (HB.out.trans ((Calm.below _).mono HB.out.size))))))); refine wpQuiet_nil ?_; intro _ hw'; obtain ⟨xq, hw''⟩ := hw'; subst hw''); go_wp2; go_meet; exact ⟨by rw [HSB.out], Lib.hid (Calm.below xq)⟩)); (rw [Bool.true_and] at HSB; by_cases hnn : ni = n0; (subst hnn; rw [beq_self_eq_true] at HSB; ((refine wp_region_calm (wz.heap.size) (by kernel_rfl) (by kernel_rfl) ?_; (repeat (first | go_big_quiet_step ((go_at_call 28; exact Calls.calm_of (Nat.le_refl _) (HSP.out _ (HB.out.trans ((Calm.below _).mono HB.out.size))))) | quiet_step ((go_at_call 28; exact Calls.calm_of (Nat.le_refl _) (HSP.out _ (HB.out.trans ((Calm.below _).mono HB.out.size))))))); refine wpQuiet_nil ?_; intro _ hw'; obtain ⟨xq, hw''⟩ := hw'; subst hw''); go_wp2; go_meet; exact ⟨by rw [HSB.out], Lib.hid (Calm.below xq)⟩)); (have hne : ((ni : Int) == (n0 : Int)) = false := (by rw [beq_eq_false_iff_ne]; omega); rw [show (ni == n0) = false from (by rw [beq_eq_false_iff_ne]; exact hnn)] at HSB; ((refine wp_region_calm (wz.heap.size) (by kernel_rfl) (by kernel_rfl) ?_; (repeat (first | go_big_quiet_step ((go_at_call 28; exact Calls.calm_of (Nat.le_refl _) (HSP.out _ (HB.out.trans ((Calm.below _).mono HB.out.size))))) | quiet_step ((go_at_call 28; exact Calls.calm_of (Nat.le_refl _) (HSP.out _ (HB.out.trans ((Calm.below _).mono HB.out.size))))))); refine wpQuiet_nil ?_; intro _ hw'; obtain ⟨xq, hw''⟩ := hw'; subst hw''); go_wp2; go_meet; exact ⟨by rw [HSB.out], Lib.hid (Calm.below xq)⟩))))
                  case rest =>
                    (have hbc := hcut.2.out; obtain ⟨rfl, _⟩ := hcut; have HBx := Lib.hid (HB.out.trans ((hbc).mono HB.out.size)); have x0x := ((bcell hbc).1 xb (xo + i * 2) hxr).trans x0; have x1x := ((bcell hbc).1 xb (xo + i * 2 + 1) hxr).trans x1; have y0x := ((bcell hbc).1 xb xo hxr).trans y0; have hxrx := Nat.lt_of_lt_of_le hxr (hbc).size; clear HB x0 x1 y0 hxr; have HB := HBx; have x0 := x0x; have x1 := x1x; have y0 := y0x; have hxr := hxrx; clear HBx x0x x1x y0x hxrx; clear hbc)
                    cases lg
                    · (go_wp2_with (first | (go_at_call 28; refine (HSP.out _ HB.out).mono ?_; rintro e w3 ⟨rfl, hb3⟩; have HBx := Lib.hid (HB.out.trans ((hb3).mono HB.out.size)); have x0x := ((bcell hb3).1 xb (xo + i * 2) hxr).trans x0; have x1x := ((bcell hb3).1 xb (xo + i * 2 + 1) hxr).trans x1; have y0x := ((bcell hb3).1 xb xo hxr).trans y0; have hxrx := Nat.lt_of_lt_of_le hxr (hb3).size; clear HB x0 x1 y0 hxr; have HB := HBx; have x0 := x0x; have x1 := x1x; have y0 := y0x; have hxr := hxrx; clear HBx x0x x1x y0x hxrx; clear hb3) | (go_at_call 18; refine (HFD.out _ HB.out).mono ?_; rintro e w4 ⟨rfl, hb4⟩; have HBx := Lib.hid (HB.out.trans ((hb4).mono HB.out.size)); have x0x := ((bcell hb4).1 xb (xo + i * 2) hxr).trans x0; have x1x := ((bcell hb4).1 xb (xo + i * 2 + 1) hxr).trans x1; have y0x := ((bcell hb4).1 xb xo hxr).trans y0; have hxrx := Nat.lt_of_lt_of_le hxr (hb4).size; clear HB x0 x1 y0 hxr; have HB := HBx; have x0 := x0x; have x1 := x1x; have y0 := y0x; have hxr := hxrx; clear HBx x0x x1x y0x hxrx; clear hb4)); go_roundw; (case rel => exact ⟨i + 1, by omega, by go_num, by (first | (rw [HLG.out]; done) | (rw [HLG.out, HDF.out]; done)), rfl, Lib.hid ⟨HNQ.out, HB.out⟩⟩); (case measure => (simp [intOf]; omega)))
                    · (go_wp2_with (first | (go_at_call 28; refine (HSP.out _ HB.out).mono ?_; rintro e w3 ⟨rfl, hb3⟩; have HBx := Lib.hid (HB.out.trans ((hb3).mono HB.out.size)); have x0x := ((bcell hb3).1 xb (xo + i * 2) hxr).trans x0; have x1x := ((bcell hb3).1 xb (xo + i * 2 + 1) hxr).trans x1; have y0x := ((bcell hb3).1 xb xo hxr).trans y0; have hxrx := Nat.lt_of_lt_of_le hxr (hb3).size; clear HB x0 x1 y0 hxr; have HB := HBx; have x0 := x0x; have x1 := x1x; have y0 := y0x; have hxr := hxrx; clear HBx x0x x1x y0x hxrx; clear hb3) | (go_at_call 18; refine (HFD.out _ HB.out).mono ?_; rintro e w4 ⟨rfl, hb4⟩; have HBx := Lib.hid (HB.out.trans ((hb4).mono HB.out.size)); have x0x := ((bcell hb4).1 xb (xo + i * 2) hxr).trans x0; have x1x := ((bcell hb4).1 xb (xo + i * 2 + 1) hxr).trans x1; have y0x := ((bcell hb4).1 xb xo hxr).trans y0; have hxrx := Nat.lt_of_lt_of_le hxr (hb4).size; clear HB x0 x1 y0 hxr; have HB := HBx; have x0 := x0x; have x1 := x1x; have y0 := y0x; have hxr := hxrx; clear HBx x0x x1x y0x hxrx; clear hb4)); go_roundw; (case rel => exact ⟨i + 1, by omega, by go_num, by (first | (rw [HLG.out]; done) | (rw [HLG.out, HDF.out]; done)), rfl, Lib.hid ⟨HNQ.out, HB.out⟩⟩); (case measure => (simp [intOf]; omega)))
          · obtain rfl : t = i := by omega
            have hlt' : ¬ (t : Int) < (t : Int) := by omega
            go_wp2
            go_meet
            exact ⟨rfl, rfl, HX⟩
      case rest =>
        obtain ⟨rfl, rfl, HX⟩ := hcut
        rename_i hKK
        refine hKK _ _ ?_
        rw [← HRES.out]
        exact ep_rest a t c im ch w0 HH.out h9 wc _ _ _ _ _ _ _ _ _ _ _ _ _ _ _ _ _ _ _ _ _ _ _ _ _ _ _ _ _ _ _ _ _ _ _ _ _ _ _ _ _ _ _ _ _ _ _ _ _ _ _ _ _ _ _ _ _ _ _ _ _ _ _ _ _ _ _ _ _ _ _ _ _ _ _ _ _ _ _ _ _ _ _ _ _ _ _ _ _ _ _ _ _ _ _ _ _ _ _ _ _ _ _ _ _ _ _ _ _ _ _ _ _ _ _ _ _ _ _ _ _ _ _ _ _ _ _ _ _ _ _ _ _ _ _ _ _ _ _ _ _ _ _ _ _ _ _ _ _ _ _ _ _ _ _ _ _ _ _ _ _ _ _ _ _ _ _ _ _ _ _ _ _ _ _ _ _ _ _ _ _ _ _ _ _ _ _ _ _ _ _ _ _ _ _ _ _ _ _ _ _ _ _ _ _ _ _ _ _ _ _ _ _ _ _ _ _ _ _ _ _ _ _ _ _ HX.out.2
set_option maxRecDepth 100000 in
set_option maxHeartbeats 4000000 in
theorem ImageEpochs_any (a : Option Addr) (t c : Nat) (im : Nat → IM) (ch : Int) (w : World) (B : Nat) (hBw : B ≤ w.heap.size) (hI : Imgs B w a t im) (ht : Lib.TabIs Tryd.prog w "internal/strconv.uint64pow10" .u64 Lib.pow10Tab) :
    Calls Tryd.prog 6 #[.slice a t c, .int .i64 ch] w fun e w' => e = .returned (.bool true) ∧ Below w.heap.size w w' := by
  have h : IsIn a t im w := ⟨hI.up hBw, Lib.tabBelow_of_tabIs ht⟩
  have htm := hI.1
  unfold maxLen at htm
  have HKN := Lib.hid (fun (W : World) (hb : Below w.heap.size w W) => h.known hb)
  have HB := Lib.hid (Below.refl w.heap.size w)
  by_cases h46 : 4 < t ∧ t ≤ 6
  · have h4' : (4 : Int) < (t : Int) := by omega
    have h6' : (t : Int) ≤ 6 := by omega
    clear h hI ht h46
    go_enter Tryd.func6, Tryd.ntmps6
    go_wp2_with (go_at_call 11; refine (HKN.out _ HB.out).mono ?_; rintro e w5 ⟨rfl, hb5⟩)
    go_ret
    exact ⟨rfl, hb5⟩
  · by_cases h9 : t ≤ 9
    · exact Ep_loop a t c im ch w h h46 h9
    · have h4' : (4 : Int) < (t : Int) := by omega
      have h6' : ¬ (t : Int) ≤ 6 := by omega
      have h9' : (9 : Int) < (t : Int) := by omega
      clear h hI ht h46
      go_enter Tryd.func6, Tryd.ntmps6
      go_wp2_with (go_at_call 11; refine (HKN.out _ HB.out).mono ?_; rintro e w5 ⟨rfl, hb5⟩)
      go_ret
      exact ⟨rfl, hb5⟩
end Go.Proofs.YtlfegmjdheddjaaDoor
