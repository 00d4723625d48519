/- The walk of the statement ImageMoves: the loop over the images. -/
import Derived.Test.YtlfegmjdheddjaaDoorLawMvB
namespace Go.Proofs.YtlfegmjdheddjaaDoor
open Go.RowKit
set_option linter.unusedVariables false
set_option linter.unusedSimpArgs false
theorem mv_rest (a : Option Addr) (t c : Nat) (im : Nat → IM) (xa : Option Addr) (xc : Nat) (fm : Nat → FM) (ch mo : Int) (w : World) (h : MvIn a t im xa fm w) (hg : MvG t im) (hch : 0 ≤ ch ∧ ch ≤ mo ∧ mo ≤ 1000) (W : World) (u4 u5 u6 u7 u8 u10 u11 u12 u13 u14 u15 u16 u17 u18 u19 u20 u21 u22 u23 u24 u25 u26 u27 u28 u29 u30 u31 u32 u33 u34 u35 u36 u37 u38 u39 u40 u41 u42 u43 u44 u45 u46 u47 u48 u49 u50 u51 u52 u53 u54 u55 u56 u57 u58 u59 u60 u61 u62 u63 u64 u65 u66 u67 u68 u69 u70 u71 u72 u73 u74 u75 u76 u77 u78 u79 u80 u81 u82 u83 u84 u85 u86 u87 u88 u89 u90 u91 u92 u93 u94 u95 u96 u97 u98 u99 u100 u101 u102 u103 u104 u105 u106 u107 u108 u109 u110 u111 u112 u113 u114 u115 u116 u117 u118 u119 u120 u121 u122 u123 u124 u125 u126 u127 u128 u129 u130 u131 u132 u133 u134 u135 u136 u137 u138 u139 u140 u141 u142 u143 u144 u145 u146 u147 u148 u149 u150 u151 u152 u153 u154 u155 u156 u157 u158 u159 u160 u161 u162 u163 u164 u165 u166 u167 u168 u169 u170 u171 u172 u173 u174 u175 u176 u177 u178 u179 u180 u181 u182 u183 u184 u185 u186 u187 u188 u189 u190 u191 u192 u193 u194 u195 u196 u197 u198 u199 u200 u201 u202 u203 u204 u205 u206 u207 u208 u209 u210 u211 u212 u213 u214 u215 u216 u217 u218 u219 u220 u221 u222 u223 u224 u225 u226 u227 u228 u229 u230 u231 u232 u233 u234 u235 u236 u237 u238 u239 u240 u241 u242 u243 u244 u245 u246 u247 u248 u249 u250 u251 u252 u253 u254 u255 u256 u257 u258 u259 u260 u261 u262 u263 u264 u265 u266 u267 u268 u269 u270 u271 u272 u273 u274 u275 u276 u277 u278 u279 u280 u281 u282 u283 u284 u285 u286 u287 u288 u289 u290 u291 u292 u293 u294 u295 u296 u297 u298 u299 u300 u301 u302 u303 u304 u305 u306 u307 u308 u309 u310 u311 u312 u313 u314 u315 u316 u317 u318 u319 u320 u321 u322 u323 u324 u325 u326 u327 u328 u329 u330 u331 u332 : Value) (hb : Below w.heap.size w W) :
    (mvFrom 4).wp Tryd.prog (bodyPost Tryd.prog Tryd.f7 (mvPost w)) ⟨#[.slice a t c, .slice xa t xc, .int .i64 ch, .int .i64 mo, u4, u5, u6, u7, u8, .bool (ownB im fm ch t), u10, u11, u12, u13, u14, u15, u16, u17, u18, u19, u20, u21, u22, u23, u24, u25, u26, u27, u28, u29, u30, u31, u32, u33, u34, u35, u36, u37, u38, u39, u40, u41, u42, u43, u44, u45, u46, u47, u48, u49, u50, u51, u52, u53, u54, u55, u56, u57, u58, u59, u60, u61, u62, u63, u64, u65, u66, u67, u68, u69, u70, u71, u72, u73, u74, u75, u76, u77, u78, u79, u80, u81, u82, u83, u84, u85, u86, u87, u88, u89, u90, u91, u92, u93, u94, u95, u96, u97, u98, u99, u100, u101, u102, u103, u104, u105, u106, u107, u108, u109, u110, u111, u112, u113, u114, u115, u116, u117, u118, u119, u120, u121, u122, u123, u124, u125, u126, u127, u128, u129, u130, u131, u132, u133, u134, u135, u136, u137, u138, u139, u140, u141, u142, u143, u144, u145, u146, u147, u148, u149, u150, u151, u152, u153, u154, u155, u156, u157, u158, u159, u160, u161, u162, u163, u164, u165, u166, u167, u168, u169, u170, u171, u172, u173, u174, u175, u176, u177, u178, u179, u180, u181, u182, u183, u184, u185, u186, u187, u188, u189, u190, u191, u192, u193, u194, u195, u196, u197, u198, u199, u200, u201, u202, u203, u204, u205, u206, u207, u208, u209, u210, u211, u212, u213, u214, u215, u216, u217, u218, u219, u220, u221, u222, u223, u224, u225, u226, u227, u228, u229, u230, u231, u232, u233, u234, u235, u236, u237, u238, u239, u240, u241, u242, u243, u244, u245, u246, u247, u248, u249, u250, u251, u252, u253, u254, u255, u256, u257, u258, u259, u260, u261, u262, u263, u264, u265, u266, u267, u268, u269, u270, u271, u272, u273, u274, u275, u276, u277, u278, u279, u280, u281, u282, u283, u284, u285, u286, u287, u288, u289, u290, u291, u292, u293, u294, u295, u296, u297, u298, u299, u300, u301, u302, u303, u304, u305, u306, u307, u308, u309, u310, u311, u312, u313, u314, u315, u316, u317, u318, u319, u320, u321, u322, u323, u324, u325, u326, u327, u328, u329, u330, u331, u332], []⟩ W := by
  cases hB : allUpto t (fun i => !(im i).F.isEmpty)
  · exact mv_N a t c im xa xc fm ch mo w h hg hch hB W _ _ _ _ _ _ _ _ _ _ _ _ _ _ _ _ _ _ _ _ _ _ _ _ _ _ _ _ _ _ _ _ _ _ _ _ _ _ _ _ _ _ _ _ _ _ _ _ _ _ _ _ _ _ _ _ _ _ _ _ _ _ _ _ _ _ _ _ _ _ _ _ _ _ _ _ _ _ _ _ _ _ _ _ _ _ _ _ _ _ _ _ _ _ _ _ _ _ _ _ _ _ _ _ _ _ _ _ _ _ _ _ _ _ _ _ _ _ _ _ _ _ _ _ _ _ _ _ _ _ _ _ _ _ _ _ _ _ _ _ _ _ _ _ _ _ _ _ _ _ _ _ _ _ _ _ _ _ _ _ _ _ _ _ _ _ _ _ _ _ _ _ _ _ _ _ _ _ _ _ _ _ _ _ _ _ _ _ _ _ _ _ _ _ _ _ _ _ _ _ _ _ _ _ _ _ _ _ _ _ _ _ _ _ _ _ _ _ _ _ _ _ _ _ _ _ _ _ _ _ _ _ _ _ _ _ _ _ _ _ _ _ _ _ _ _ _ _ _ _ _ _ _ _ _ _ _ _ _ _ _ _ _ _ _ _ _ _ _ _ _ _ _ _ _ _ _ _ _ _ _ _ _ _ _ _ _ _ _ _ _ _ _ _ _ _ _ _ _ _ _ _ _ _ _ _ _ _ _ _ _ _ _ _ _ _ _ _ _ _ _ _ _ _ _ _ _ _ hb
  · have hc : EpC t im := ⟨hg.t1, by have := hg.t4; omega, hg.good, fun i hi e => by
      have := allUpto_iff.1 hB i hi
      rw [e] at this
      cases this⟩
    by_cases hH : histF (im 0).cn ch (fun i => (im i).F) t 0 = []
    · exact mv_C12 a t c im xa xc fm ch mo w h hg hc hch hH W _ _ _ _ _ _ _ _ _ _ _ _ _ _ _ _ _ _ _ _ _ _ _ _ _ _ _ _ _ _ _ _ _ _ _ _ _ _ _ _ _ _ _ _ _ _ _ _ _ _ _ _ _ _ _ _ _ _ _ _ _ _ _ _ _ _ _ _ _ _ _ _ _ _ _ _ _ _ _ _ _ _ _ _ _ _ _ _ _ _ _ _ _ _ _ _ _ _ _ _ _ _ _ _ _ _ _ _ _ _ _ _ _ _ _ _ _ _ _ _ _ _ _ _ _ _ _ _ _ _ _ _ _ _ _ _ _ _ _ _ _ _ _ _ _ _ _ _ _ _ _ _ _ _ _ _ _ _ _ _ _ _ _ _ _ _ _ _ _ _ _ _ _ _ _ _ _ _ _ _ _ _ _ _ _ _ _ _ _ _ _ _ _ _ _ _ _ _ _ _ _ _ _ _ _ _ _ _ _ _ _ _ _ _ _ _ _ _ _ _ _ _ _ _ _ _ _ _ _ _ _ _ _ _ _ _ _ _ _ _ _ _ _ _ _ _ _ _ _ _ _ _ _ _ _ _ _ _ _ _ _ _ _ _ _ _ _ _ _ _ _ _ _ _ _ _ _ _ _ _ _ _ _ _ _ _ _ _ _ _ _ _ _ _ _ _ _ _ _ _ _ _ _ _ _ _ _ _ _ _ _ _ _ _ _ _ _ _ _ _ _ _ _ _ _ _ _ _ hb
    · exact mv_C3 a t c im xa xc fm ch mo w h hg hc hch hH W _ _ _ _ _ _ _ _ _ _ _ _ _ _ _ _ _ _ _ _ _ _ _ _ _ _ _ _ _ _ _ _ _ _ _ _ _ _ _ _ _ _ _ _ _ _ _ _ _ _ _ _ _ _ _ _ _ _ _ _ _ _ _ _ _ _ _ _ _ _ _ _ _ _ _ _ _ _ _ _ _ _ _ _ _ _ _ _ _ _ _ _ _ _ _ _ _ _ _ _ _ _ _ _ _ _ _ _ _ _ _ _ _ _ _ _ _ _ _ _ _ _ _ _ _ _ _ _ _ _ _ _ _ _ _ _ _ _ _ _ _ _ _ _ _ _ _ _ _ _ _ _ _ _ _ _ _ _ _ _ _ _ _ _ _ _ _ _ _ _ _ _ _ _ _ _ _ _ _ _ _ _ _ _ _ _ _ _ _ _ _ _ _ _ _ _ _ _ _ _ _ _ _ _ _ _ _ _ _ _ _ _ _ _ _ _ _ _ _ _ _ _ _ _ _ _ _ _ _ _ _ _ _ _ _ _ _ _ _ _ _ _ _ _ _ _ _ _ _ _ _ _ _ _ _ _ _ _ _ _ _ _ _ _ _ _ _ _ _ _ _ _ _ _ _ _ _ _ _ _ _ _ _ _ _ _ _ _ _ _ _ _ _ _ _ _ _ _ _ _ _ _ _ _ _ _ _ _ _ _ _ _ _ _ _ _ _ _ _ _ _ _ _ _ _ _ _ _ hb
set_option maxRecDepth 100000 in
set_option maxHeartbeats 4000000 in
theorem Mv_loop (a : Option Addr) (t c : Nat) (im : Nat → IM) (xa : Option Addr) (xc : Nat) (fm : Nat → FM) (ch mo : Int) (w : World) (h : MvIn a t im xa fm w) (ht1 : 1 ≤ t) (ht4 : t ≤ 4) (hch : 0 ≤ ch ∧ ch ≤ mo ∧ mo ≤ 1000) :
    Calls Tryd.prog 7 #[.slice a t c, .slice xa t xc, .int .i64 ch, .int .i64 mo] w (mvPost w) := by
  have HH := Lib.hid h
  have HKN := Lib.hid (fun (W : World) (hb : Below w.heap.size w W) => h.is.known hb)
  have HI := Lib.hid h.is.imgs
  have HFM := Lib.hid h.fm
  have HCH := Lib.hid hch
  have g1 : ¬ (t : Int) < 1 := by omega
  have g2 : ¬ (4 : Int) < (t : Int) := by omega
  have g3 : ((t : Int) != (t : Int)) = false := by simp
  have g4 : ¬ ch < 0 := by omega
  have g5 : ¬ mo < ch := by omega
  have g6 : ¬ 1000 < mo := by omega
  generalize hres : mvPost w = RES
  have HR := Lib.hid (fun (w' : World) (hb : Below w.heap.size w w') => show RES (.returned (.bool true)) w' from hres ▸ ⟨rfl, hb⟩)
  have HRES := Lib.hid hres
  clear hres h hch
  go_enter Tryd.func7, Tryd.ntmps7
  go_upto_block 0 with (fail)
  clear g1 g2 g3 g4 g5 g6
  go_cut [9] from 10 to 139 (fun s9 wx => s9 = .bool (ownB im fm ch t) ∧ Hid ((∀ j, j < t → (im j).check = 0 ∧ (im j).fields ≤ 500 ∧ (im j).cn = (im 0).cn) ∧ Below w.heap.size w wx))
  case first =>
    go_wp2
    go_loopw [9, 10] (fun s9 s10 wr => ∃ i : Nat, i ≤ t ∧ s10 = .int .i64 (i : Int) ∧ s9 = .bool (ownB im fm ch i) ∧ Hid ((∀ j, j < i → (im j).check = 0 ∧ (im j).fields ≤ 500 ∧ (im j).cn = (im 0).cn) ∧ Below w.heap.size w wr)) (fun _ s10 _ => t - (intOf s10).toNat)
    case atStart => exact ⟨0, Nat.zero_le _, rfl, rfl, Lib.hid ⟨fun j hj => by omega, Below.refl _ _⟩⟩
    case round =>
      obtain ⟨i, hi, rfl, rfl, HX⟩ := hrel
      by_cases hlt : i < t
      · have hlt' : (i : Int) < (t : Int) := by omega
        have h0t : (0 : Int) < (t : Int) := by omega
        have HSH := Lib.hid (fun (W : World) (hb : Below w.heap.size w W) => HH.out.is.shortC hlt hb)
        have HCK := Lib.hid (fun (W : World) (hb : Below w.heap.size w W) => HH.out.is.checkC hlt hb)
        have HFD0 := Lib.hid (fun (hc : (im i).check = 0) (W : World) (hb : Below w.heap.size w W) => HH.out.is.fieldsC hlt (check_shape hc) hb)
        have HFI := Lib.hid (fun (W : World) (hb : Below w.heap.size w W) => HH.out.fieldC hlt hb)
        have HAG0 := Lib.hid (fun (hc : (im i).check = 0) (hf : fieldB (im i).cn (im i).ss (fm i).n (fm i).f = true) (W : World) (hb : Below w.heap.size w W) => HH.out.agreesC hlt hc hf hb)
        have HAP0 := Lib.hid (fun (h0 : 0 < i) (hc : (im i).check = 0) (hn : (im i).cn = (im 0).cn) (ho : ownB im fm ch i = true) (hf : fieldB (im i).cn (im i).ss (fm i).n (fm i).f = true) (W : World) (hb : Below w.heap.size w W) => HH.out.apartC hlt (j := i - 1) (by omega) hc (HX.out.1 (i - 1) (by omega)).1 (by rw [hn, (HX.out.1 (i - 1) (by omega)).2.2]) hf (ownB_up ho (i - 1) (by omega)).1 hb)
        have HB := Lib.hid HX.out.2
        have HG0 := Lib.hid (fun (e1 : (im i).check = 0) (e2 : (im i).fields ≤ 500) (e3 : (im i).cn = (im 0).cn) (j : Nat) (hj : j < i + 1) => show (im j).check = 0 ∧ (im j).fields ≤ 500 ∧ (im j).cn = (im 0).cn from by (by_cases e : j = i; (subst e; exact ⟨e1, e2, e3⟩); exact HX.out.1 j (by omega)))
        have HOS := Lib.hid (show ownB im fm ch (i + 1) = (ownB im fm ch i && (fieldB (im i).cn (im i).ss (fm i).n (fm i).f && agreesB (im i).bn (im i).bs (fm i).f && ((i == 0) || decide (apartF (fm (i - 1)).f (fm i).f (fm (i - 1)).n ≤ ch)))) from rfl)
        obtain ⟨xb, xo, hxa, hxB, x0, x1, xS, _⟩ := (HI.out.below HB.out).get hlt
        obtain ⟨xb', xo', hxa', _, y0, _, yS, _⟩ := (HI.out.below HB.out).get (i := 0) (by omega)
        have hnm := xS.1
        have hym := yS.1
        obtain ⟨vb, vo, hva, hvB, v0, hvm, _⟩ := (HFM.out.below HB.out).get hlt
        subst hxa
        injection hxa' with hxa'
        injection hxa' with e1 e2 _
        subst e1 e2
        subst hva
        rw [Nat.zero_mul, Nat.add_zero] at y0
        have hxr : xb < wr.heap.size := by have := HB.out.size; omega
        have hvr : vb < wr.heap.size := by have := HB.out.size; omega
        unfold maxLen at hnm hym hvm
        clear xS yS
        have HV := Lib.hid (fun (h0 : 0 < i) => show wr.cell? ⟨vb, vo + (i - 1), none⟩ = some (.slice (fm (i - 1)).a (fm (i - 1)).n (fm (i - 1)).c) from by
          obtain ⟨vb', vo', hva', _, k0, _⟩ := (HFM.out.below HB.out).get (i := i - 1) (by omega)
          injection hva' with hva'
          injection hva' with e1 e2 _
          subst e1 e2
          exact k0)
        clear HX
        generalize hE : (im i).check = E at *
        generalize (im i).short = xs at *
        generalize (im i).fields = F at *
        generalize ownB im fm ch i = OW at *
        generalize fieldB (im i).cn (im i).ss (fm i).n (fm i).f = fB at *
        generalize agreesB (im i).bn (im i).bs (fm i).f = aB at *
        generalize apartF (fm (i - 1)).f (fm i).f (fm (i - 1)).n = AP at *
        generalize (im i).cn = ni at *
        generalize (im 0).cn = n0 at *
        generalize (fm i).n = gn at *
        generalize (fm i).a = ga at *
        generalize (fm i).c = gc at *
        clear hE
        cases xs
        · clear HFD0 HFI HAG0 HAP0 HG0 HOS HV y0 v0
          go_upto_region 7 with (fail); (refine wp_region_calm (wr.heap.size) (by kernel_rfl) (by kernel_rfl) ?_; (repeat (first | go_big_quiet_step (first | (go_at_call 17; exact Calls.calm_of (Nat.le_refl _) (HSH.out _ (HB.out.trans ((Calm.below _).mono HB.out.size)))) | (go_at_call 13; exact Calls.calm_of (Nat.le_refl _) (HCK.out _ (HB.out.trans ((Calm.below _).mono HB.out.size)))) | (go_at_call 18; exact Calls.calm_of (Nat.le_refl _) (HFD.out _ (HB.out.trans ((Calm.below _).mono HB.out.size))))) | quiet_step (first | (go_at_call 17; exact Calls.calm_of (Nat.le_refl _) (HSH.out _ (HB.out.trans ((Calm.below _).mono HB.out.size)))) | (go_at_call 13; exact Calls.calm_of (Nat.le_refl _) (HCK.out _ (HB.out.trans ((Calm.below _).mono HB.out.size)))) | (go_at_call 18; exact Calls.calm_of (Nat.le_refl _) (HFD.out _ (HB.out.trans ((Calm.below _).mono HB.out.size))))))); refine wpQuiet_nil ?_; intro _ hw'; obtain ⟨xq, hw''⟩ := hw'; subst hw''); have HBq := Lib.hid (HB.out.trans ((Calm.below xq).mono HB.out.size)); generalize Calm.val xq = wq at *; go_wp2_with (go_at_call 11; refine (HKN.out _ HBq.out).mono ?_; rintro e w5 ⟨rfl, hb5⟩); exact HR.out _ (HBq.out.trans (hb5.mono HBq.out.size))
        · by_cases hE : E = 0
          · subst hE
            have HFD := Lib.hid (HFD0.out rfl)
            have HAG1 := Lib.hid (HAG0.out rfl)
            have HAP1 := Lib.hid (fun h0 => HAP0.out h0 rfl)
            have HG1 := Lib.hid (HG0.out rfl)
            clear HFD0 HAG0 HAP0 HG0
            by_cases hF : 500 < F
            · clear HFI HAG1 HAP1 HG1 HOS HV y0 v0
              go_upto_region 7 with (fail); (refine wp_region_calm (wr.heap.size) (by kernel_rfl) (by kernel_rfl) ?_; (repeat (first | go_big_quiet_step (first | (go_at_call 17; exact Calls.calm_of (Nat.le_refl _) (HSH.out _ (HB.out.trans ((Calm.below _).mono HB.out.size)))) | (go_at_call 13; exact Calls.calm_of (Nat.le_refl _) (HCK.out _ (HB.out.trans ((Calm.below _).mono HB.out.size)))) | (go_at_call 18; exact Calls.calm_of (Nat.le_refl _) (HFD.out _ (HB.out.trans ((Calm.below _).mono HB.out.size))))) | quiet_step (first | (go_at_call 17; exact Calls.calm_of (Nat.le_refl _) (HSH.out _ (HB.out.trans ((Calm.below _).mono HB.out.size)))) | (go_at_call 13; exact Calls.calm_of (Nat.le_refl _) (HCK.out _ (HB.out.trans ((Calm.below _).mono HB.out.size)))) | (go_at_call 18; exact Calls.calm_of (Nat.le_refl _) (HFD.out _ (HB.out.trans ((Calm.below _).mono HB.out.size))))))); refine wpQuiet_nil ?_; intro _ hw'; obtain ⟨xq, hw''⟩ := hw'; subst hw''); have HBq := Lib.hid (HB.out.trans ((Calm.below xq).mono HB.out.size)); generalize Calm.val xq = wq at *; go_wp2_with (go_at_call 11; refine (HKN.out _ HBq.out).mono ?_; rintro e w5 ⟨rfl, hb5⟩); exact HR.out _ (HBq.out.trans (hb5.mono HBq.out.size))
            · by_cases hn : ni = n0
              · subst hn
                have hnn : ((ni : Int) != (ni : Int)) = false := by simp
                have HAP2 := Lib.hid (fun h0 => HAP1.out h0 rfl)
                have HG := Lib.hid (HG1.out (by omega) rfl)
                clear HAP1 HG1
                by_cases hg : 60 < gn
                · have hg' : (60 : Int) < (gn : Int) := by omega
                  clear HFI HAG1 HAP2 HG HOS HV
                  go_upto_region 7 with (fail); (refine wp_region_calm (wr.heap.size) (by kernel_rfl) (by kernel_rfl) ?_; (repeat (first | go_big_quiet_step (first | (go_at_call 17; exact Calls.calm_of (Nat.le_refl _) (HSH.out _ (HB.out.trans ((Calm.below _).mono HB.out.size)))) | (go_at_call 13; exact Calls.calm_of (Nat.le_refl _) (HCK.out _ (HB.out.trans ((Calm.below _).mono HB.out.size)))) | (go_at_call 18; exact Calls.calm_of (Nat.le_refl _) (HFD.out _ (HB.out.trans ((Calm.below _).mono HB.out.size))))) | quiet_step (first | (go_at_call 17; exact Calls.calm_of (Nat.le_refl _) (HSH.out _ (HB.out.trans ((Calm.below _).mono HB.out.size)))) | (go_at_call 13; exact Calls.calm_of (Nat.le_refl _) (HCK.out _ (HB.out.trans ((Calm.below _).mono HB.out.size)))) | (go_at_call 18; exact Calls.calm_of (Nat.le_refl _) (HFD.out _ (HB.out.trans ((Calm.below _).mono HB.out.size))))))); refine wpQuiet_nil ?_; intro _ hw'; obtain ⟨xq, hw''⟩ := hw'; subst hw''); have HBq := Lib.hid (HB.out.trans ((Calm.below xq).mono HB.out.size)); generalize Calm.val xq = wq at *; go_wp2_with (go_at_call 11; refine (HKN.out _ HBq.out).mono ?_; rintro e w5 ⟨rfl, hb5⟩); exact HR.out _ (HBq.out.trans (hb5.mono HBq.out.size))
                · have hg' : ¬ (60 : Int) < (gn : Int) := by omega
                  go_upto_region 7 with (fail)
                  (refine wp_region_calm (wr.heap.size) (by kernel_rfl) (by kernel_rfl) ?_; (repeat (first | go_big_quiet_step (first | (go_at_call 17; exact Calls.calm_of (Nat.le_refl _) (HSH.out _ (HB.out.trans ((Calm.below _).mono HB.out.size)))) | (go_at_call 13; exact Calls.calm_of (Nat.le_refl _) (HCK.out _ (HB.out.trans ((Calm.below _).mono HB.out.size)))) | (go_at_call 18; exact Calls.calm_of (Nat.le_refl _) (HFD.out _ (HB.out.trans ((Calm.below _).mono HB.out.size))))) | quiet_step (first | (go_at_call 17; exact Calls.calm_of (Nat.le_refl _) (HSH.out _ (HB.out.trans ((Calm.below _).mono HB.out.size)))) | (go_at_call 13; exact Calls.calm_of (Nat.le_refl _) (HCK.out _ (HB.out.trans ((Calm.below _).mono HB.out.size)))) | (go_at_call 18; exact Calls.calm_of (Nat.le_refl _) (HFD.out _ (HB.out.trans ((Calm.below _).mono HB.out.size))))))); refine wpQuiet_nil ?_; intro _ hw'; obtain ⟨xq, hw''⟩ := hw'; subst hw'')
                  have HBx := Lib.hid (HB.out.trans ((Calm.below xq).mono HB.out.size))
                  have x0x := ((bcell (Calm.below xq)).1 xb _ hxr).trans x0
                  have x1x := ((bcell (Calm.below xq)).1 xb _ hxr).trans x1
                  have v0x := ((bcell (Calm.below xq)).1 vb _ hvr).trans v0
                  have HVx := Lib.hid (fun h0 => ((bcell (Calm.below xq)).1 vb _ hvr).trans (HV.out h0))
                  have hxrx := Nat.lt_of_lt_of_le hxr (Calm.below xq).size
                  have hvrx := Nat.lt_of_lt_of_le hvr (Calm.below xq).size
                  clear HB x0 x1 y0 v0 HV hxr hvr HSH HCK HFD
                  have HB := HBx
                  clear HBx
                  generalize Calm.val xq = wz at *
                  go_upto_region 9 with (fail)
                  cases OW
                  · rw [Bool.false_and] at HOS
                    clear HFI HAG1 HAP2 HVx
                    (refine wp_region_calm (wz.heap.size) (by kernel_rfl) (by kernel_rfl) ?_; (repeat (first | go_big_quiet_step (first | (go_at_call 22; exact Calls.calm_of (Nat.le_refl _) (HFI.out _ (HB.out.trans ((Calm.below _).mono HB.out.size)))) | (go_at_call 23; exact Calls.calm_of (Nat.le_refl _) (HAG.out _ (HB.out.trans ((Calm.below _).mono HB.out.size)))) | (go_at_call 36; exact Calls.calm_of (Nat.le_refl _) (HAP.out _ (HB.out.trans ((Calm.below _).mono HB.out.size))))) | quiet_step (first | (go_at_call 22; exact Calls.calm_of (Nat.le_refl _) (HFI.out _ (HB.out.trans ((Calm.below _).mono HB.out.size)))) | (go_at_call 23; exact Calls.calm_of (Nat.le_refl _) (HAG.out _ (HB.out.trans ((Calm.below _).mono HB.out.size)))) | (go_at_call 36; exact Calls.calm_of (Nat.le_refl _) (HAP.out _ (HB.out.trans ((Calm.below _).mono HB.out.size))))))); refine wpQuiet_nil ?_; intro _ hw'; obtain ⟨xq, hw''⟩ := hw'; subst hw''); have HBq := Lib.hid (HB.out.trans ((Calm.below xq).mono HB.out.size)); generalize Calm.val xq = wq at *; go_wp2; go_roundw; (case rel => exact ⟨i + 1, by omega, by go_num, by rw [HOS.out], Lib.hid ⟨HG.out, HBq.out⟩⟩); (case measure => (simp [intOf]; omega))
                  · rw [Bool.true_and] at HOS
                    have HAP3 := Lib.hid (fun h0 => HAP2.out h0 rfl)
                    clear HAP2
                    cases fB
                    · rw [Bool.false_and, Bool.false_and] at HOS
                      clear HAG1 HAP3 HVx
                      (refine wp_region_calm (wz.heap.size) (by kernel_rfl) (by kernel_rfl) ?_; (repeat (first | go_big_quiet_step (first | (go_at_call 22; exact Calls.calm_of (Nat.le_refl _) (HFI.out _ (HB.out.trans ((Calm.below _).mono HB.out.size)))) | (go_at_call 23; exact Calls.calm_of (Nat.le_refl _) (HAG.out _ (HB.out.trans ((Calm.below _).mono HB.out.size)))) | (go_at_call 36; exact Calls.calm_of (Nat.le_refl _) (HAP.out _ (HB.out.trans ((Calm.below _).mono HB.out.size))))) | quiet_step (first | (go_at_call 22; exact Calls.calm_of (Nat.le_refl _) (HFI.out _ (HB.out.trans ((Calm.below _).mono HB.out.size)))) | (go_at_call 23; exact Calls.calm_of (Nat.le_refl _) (HAG.out _ (HB.out.trans ((Calm.below _).mono HB.out.size)))) | (go_at_call 36; exact Calls.calm_of (Nat.le_refl _) (HAP.out _ (HB.out.trans ((Calm.below _).mono HB.out.size))))))); refine wpQuiet_nil ?_; intro _ hw'; obtain ⟨xq, hw''⟩ := hw'; subst hw''); have HBq := Lib.hid (HB.out.trans ((Calm.below xq).mono HB.out.size)); generalize Calm.val xq = wq at *; go_wp2; go_roundw; (case rel => exact ⟨i + 1, by omega, by go_num, by rw [HOS.out], Lib.hid ⟨HG.out, HBq.out⟩⟩); (case measure => (simp [intOf]; omega))
                    · rw [Bool.true_and] at HOS
                      have HAG := Lib.hid (HAG1.out rfl)
                      have HAP4 := Lib.hid (fun h0 => HAP3.out h0 rfl)
                      clear HAG1 HAP3
                      cases aB
                      · rw [Bool.false_and] at HOS
                        clear HAP4 HVx
                        (refine wp_region_calm (wz.heap.size) (by kernel_rfl) (by kernel_rfl) ?_; (repeat (first | go_big_quiet_step (first | (go_at_call 22; exact Calls.calm_of (Nat.le_refl _) (HFI.out _ (HB.out.trans ((Calm.below _).mono HB.out.size)))) | (go_at_call 23; exact Calls.calm_of (Nat.le_refl _) (HAG.out _ (HB.out.trans ((Calm.below _).mono HB.out.size)))) | (go_at_call 36; exact Calls.calm_of (Nat.le_refl _) (HAP.out _ (HB.out.trans ((Calm.below _).mono HB.out.size))))) | quiet_step (first | (go_at_call 22; exact Calls.calm_of (Nat.le_refl _) (HFI.out _ (HB.out.trans ((Calm.below _).mono HB.out.size)))) | (go_at_call 23; exact Calls.calm_of (Nat.le_refl _) (HAG.out _ (HB.out.trans ((Calm.below _).mono HB.out.size)))) | (go_at_call 36; exact Calls.calm_of (Nat.le_refl _) (HAP.out _ (HB.out.trans ((Calm.below _).mono HB.out.size))))))); refine wpQuiet_nil ?_; intro _ hw'; obtain ⟨xq, hw''⟩ := hw'; subst hw''); have HBq := Lib.hid (HB.out.trans ((Calm.below xq).mono HB.out.size)); generalize Calm.val xq = wq at *; go_wp2; go_roundw; (case rel => exact ⟨i + 1, by omega, by go_num, by rw [HOS.out], Lib.hid ⟨HG.out, HBq.out⟩⟩); (case measure => (simp [intOf]; omega))
                      · rw [Bool.true_and] at HOS
                        by_cases h0 : i = 0
                        · have hi0 : ((i : Int) == 0) = true := by rw [beq_iff_eq]; omega
                          rw [show (i == 0) = true from by rw [beq_iff_eq]; exact h0, Bool.true_or] at HOS
                          clear HAP4 HVx h0
                          (refine wp_region_calm (wz.heap.size) (by kernel_rfl) (by kernel_rfl) ?_; (repeat (first | go_big_quiet_step (first | (go_at_call 22; exact Calls.calm_of (Nat.le_refl _) (HFI.out _ (HB.out.trans ((Calm.below _).mono HB.out.size)))) | (go_at_call 23; exact Calls.calm_of (Nat.le_refl _) (HAG.out _ (HB.out.trans ((Calm.below _).mono HB.out.size)))) | (go_at_call 36; exact Calls.calm_of (Nat.le_refl _) (HAP.out _ (HB.out.trans ((Calm.below _).mono HB.out.size))))) | quiet_step (first | (go_at_call 22; exact Calls.calm_of (Nat.le_refl _) (HFI.out _ (HB.out.trans ((Calm.below _).mono HB.out.size)))) | (go_at_call 23; exact Calls.calm_of (Nat.le_refl _) (HAG.out _ (HB.out.trans ((Calm.below _).mono HB.out.size)))) | (go_at_call 36; exact Calls.calm_of (Nat.le_refl _) (HAP.out _ (HB.out.trans ((Calm.below _).mono HB.out.size))))))); refine wpQuiet_nil ?_; intro _ hw'; obtain ⟨xq, hw''⟩ := hw'; subst hw''); have HBq := Lib.hid (HB.out.trans ((Calm.below xq).mono HB.out.size)); generalize Calm.val xq = wq at *; go_wp2; go_roundw; (case rel => exact ⟨i + 1, by omega, by go_num, by rw [HOS.out], Lib.hid ⟨HG.out, HBq.out⟩⟩); (case measure => (simp [intOf]; omega))
                        · have hi0 : ((i : Int) == 0) = false := by rw [beq_eq_false_iff_ne]; omega
                          rw [show (i == 0) = false from by rw [beq_eq_false_iff_ne]; exact h0, Bool.false_or] at HOS
                          have HAP := Lib.hid (HAP4.out (by omega))
                          have v1x := HVx.out (by omega)
                          have j1 : (0 : Int) ≤ (i : Int) - 1 := by omega
                          have j2 : ((i : Int) - 1).toNat = i - 1 := by omega
                          have j3 : (i : Int) - 1 < (t : Int) := by omega
                          have j4 : i - 1 < t := by omega
                          have j6 : IntKind.i64.wrap ((i : Int) - 1) = (i : Int) - 1 := IntWalk.i64_in _ (by omega)
                          clear HAP4 HVx h0
                          generalize (fm (i - 1)).a = pa at *
                          generalize (fm (i - 1)).n = pn at *
                          generalize (fm (i - 1)).c = pc at *
                          (refine wp_region_calm (wz.heap.size) (by kernel_rfl) (by kernel_rfl) ?_; (repeat (first | go_big_quiet_step (first | (go_at_call 22; exact Calls.calm_of (Nat.le_refl _) (HFI.out _ (HB.out.trans ((Calm.below _).mono HB.out.size)))) | (go_at_call 23; exact Calls.calm_of (Nat.le_refl _) (HAG.out _ (HB.out.trans ((Calm.below _).mono HB.out.size)))) | (go_at_call 36; exact Calls.calm_of (Nat.le_refl _) (HAP.out _ (HB.out.trans ((Calm.below _).mono HB.out.size))))) | quiet_step (first | (go_at_call 22; exact Calls.calm_of (Nat.le_refl _) (HFI.out _ (HB.out.trans ((Calm.below _).mono HB.out.size)))) | (go_at_call 23; exact Calls.calm_of (Nat.le_refl _) (HAG.out _ (HB.out.trans ((Calm.below _).mono HB.out.size)))) | (go_at_call 36; exact Calls.calm_of (Nat.le_refl _) (HAP.out _ (HB.out.trans ((Calm.below _).mono HB.out.size))))))); refine wpQuiet_nil ?_; intro _ hw'; obtain ⟨xq, hw''⟩ := hw'; subst hw''); have HBq := Lib.hid (HB.out.trans ((Calm.below xq).mono HB.out.size)); generalize Calm.val xq = wq at *; go_wp2; go_roundw; (case rel => exact ⟨i + 1, by omega, by go_num, by rw [HOS.out], Lib.hid ⟨HG.out, HBq.out⟩⟩); (case measure => (simp [intOf]; omega))
              · have hnn : ((ni : Int) != (n0 : Int)) = true := by rw [bne_iff_ne]; omega
                clear HFI HAG1 HAP1 HG1 HOS HV v0
                go_upto_region 7 with (fail); (refine wp_region_calm (wr.heap.size) (by kernel_rfl) (by kernel_rfl) ?_; (repeat (first | go_big_quiet_step (first | (go_at_call 17; exact Calls.calm_of (Nat.le_refl _) (HSH.out _ (HB.out.trans ((Calm.below _).mono HB.out.size)))) | (go_at_call 13; exact Calls.calm_of (Nat.le_refl _) (HCK.out _ (HB.out.trans ((Calm.below _).mono HB.out.size)))) | (go_at_call 18; exact Calls.calm_of (Nat.le_refl _) (HFD.out _ (HB.out.trans ((Calm.below _).mono HB.out.size))))) | quiet_step (first | (go_at_call 17; exact Calls.calm_of (Nat.le_refl _) (HSH.out _ (HB.out.trans ((Calm.below _).mono HB.out.size)))) | (go_at_call 13; exact Calls.calm_of (Nat.le_refl _) (HCK.out _ (HB.out.trans ((Calm.below _).mono HB.out.size)))) | (go_at_call 18; exact Calls.calm_of (Nat.le_refl _) (HFD.out _ (HB.out.trans ((Calm.below _).mono HB.out.size))))))); refine wpQuiet_nil ?_; intro _ hw'; obtain ⟨xq, hw''⟩ := hw'; subst hw''); have HBq := Lib.hid (HB.out.trans ((Calm.below xq).mono HB.out.size)); generalize Calm.val xq = wq at *; go_wp2_with (go_at_call 11; refine (HKN.out _ HBq.out).mono ?_; rintro e w5 ⟨rfl, hb5⟩); exact HR.out _ (HBq.out.trans (hb5.mono HBq.out.size))
          · have hne : (E == 0) = false := by rw [beq_eq_false_iff_ne]; exact hE
            have hne2 : (E != 0) = true := by rw [bne, hne]; rfl
            clear HFD0 HFI HAG0 HAP0 HG0 HOS HV y0 v0 hE
            go_upto_region 7 with (fail); (refine wp_region_calm (wr.heap.size) (by kernel_rfl) (by kernel_rfl) ?_; (repeat (first | go_big_quiet_step (first | (go_at_call 17; exact Calls.calm_of (Nat.le_refl _) (HSH.out _ (HB.out.trans ((Calm.below _).mono HB.out.size)))) | (go_at_call 13; exact Calls.calm_of (Nat.le_refl _) (HCK.out _ (HB.out.trans ((Calm.below _).mono HB.out.size)))) | (go_at_call 18; exact Calls.calm_of (Nat.le_refl _) (HFD.out _ (HB.out.trans ((Calm.below _).mono HB.out.size))))) | quiet_step (first | (go_at_call 17; exact Calls.calm_of (Nat.le_refl _) (HSH.out _ (HB.out.trans ((Calm.below _).mono HB.out.size)))) | (go_at_call 13; exact Calls.calm_of (Nat.le_refl _) (HCK.out _ (HB.out.trans ((Calm.below _).mono HB.out.size)))) | (go_at_call 18; exact Calls.calm_of (Nat.le_refl _) (HFD.out _ (HB.out.trans ((Calm.below _).mono HB.out.size))))))); refine wpQuiet_nil ?_; intro _ hw'; obtain ⟨xq, hw''⟩ := hw'; subst hw''); have HBq := Lib.hid (HB.out.trans ((Calm.below xq).mono HB.out.size)); generalize Calm.val xq = wq at *; go_wp2_with (go_at_call 11; refine (HKN.out _ HBq.out).mono ?_; rintro e w5 ⟨rfl, hb5⟩); exact HR.out _ (HBq.out.trans (hb5.mono HBq.out.size))
      · obtain rfl : t = i := by omega
        have hlt' : ¬ (t : Int) < (t : Int) := by omega
        go_wp2
        go_meet
        exact ⟨rfl, HX⟩
  case rest =>
    obtain ⟨rfl, HX⟩ := hcut
    rename_i hKK
    refine hKK _ _ ?_
    rw [← HRES.out]
    exact mv_rest a t c im xa xc fm ch mo w HH.out ⟨ht1, ht4, fun i hi => (HX.out.1 i hi).1, fun i hi => (HX.out.1 i hi).2.1, fun i hi => (HX.out.1 i hi).2.2⟩ HCH.out wc _ _ _ _ _ _ _ _ _ _ _ _ _ _ _ _ _ _ _ _ _ _ _ _ _ _ _ _ _ _ _ _ _ _ _ _ _ _ _ _ _ _ _ _ _ _ _ _ _ _ _ _ _ _ _ _ _ _ _ _ _ _ _ _ _ _ _ _ _ _ _ _ _ _ _ _ _ _ _ _ _ _ _ _ _ _ _ _ _ _ _ _ _ _ _ _ _ _ _ _ _ _ _ _ _ _ _ _ _ _ _ _ _ _ _ _ _ _ _ _ _ _ _ _ _ _ _ _ _ _ _ _ _ _ _ _ _ _ _ _ _ _ _ _ _ _ _ _ _ _ _ _ _ _ _ _ _ _ _ _ _ _ _ _ _ _ _ _ _ _ _ _ _ _ _ _ _ _ _ _ _ _ _ _ _ _ _ _ _ _ _ _ _ _ _ _ _ _ _ _ _ _ _ _ _ _ _ _ _ _ _ _ _ _ _ _ _ _ _ _ _ _ _ _ _ _ _ _ _ _ _ _ _ _ _ _ _ _ _ _ _ _ _ _ _ _ _ _ _ _ _ _ _ _ _ _ _ _ _ _ _ _ _ _ _ _ _ _ _ _ _ _ _ _ _ _ _ _ _ _ _ _ _ _ _ _ _ _ _ _ _ _ _ _ _ _ _ _ _ _ _ _ _ _ _ _ _ _ _ _ _ _ _ _ _ _ _ _ _ _ _ _ _ _ _ _ _ _ HX.out.2
set_option maxRecDepth 100000 in
set_option maxHeartbeats 4000000 in
theorem ImageMoves_any (a : Option Addr) (t c : Nat) (im : Nat → IM) (xa : Option Addr) (xt xc : Nat) (fm : Nat → FM) (ch mo : Int) (w : World) (B : Nat) (hBw : B ≤ w.heap.size) (hI : Imgs B w a t im) (hX : FmAt w.heap.size w xa xt fm) (ht : Lib.TabIs Tryd.prog w "internal/strconv.uint64pow10" .u64 Lib.pow10Tab) :
    Calls Tryd.prog 7 #[.slice a t c, .slice xa xt xc, .int .i64 ch, .int .i64 mo] w fun e w' => e = .returned (.bool true) ∧ Below w.heap.size w w' := by
  have h : IsIn a t im w := ⟨hI.up hBw, Lib.tabBelow_of_tabIs ht⟩
  have htm := hI.1
  have hxm := hX.1
  unfold maxLen at htm hxm
  have HKN := Lib.hid (fun (W : World) (hb : Below w.heap.size w W) => h.known hb)
  have HB := Lib.hid (Below.refl w.heap.size w)
  by_cases h1 : t < 1
  · have h1' : (t : Int) < 1 := by omega
    clear h hI hX ht
    go_enter Tryd.func7, Tryd.ntmps7; go_wp2_with (go_at_call 11; refine (HKN.out _ HB.out).mono ?_; rintro e w5 ⟨rfl, hb5⟩); go_ret; exact ⟨rfl, hb5⟩
  have h1' : ¬ (t : Int) < 1 := by omega
  by_cases h2 : 4 < t
  · have h2' : (4 : Int) < (t : Int) := by omega
    clear h hI hX ht
    go_enter Tryd.func7, Tryd.ntmps7; go_wp2_with (go_at_call 11; refine (HKN.out _ HB.out).mono ?_; rintro e w5 ⟨rfl, hb5⟩); go_ret; exact ⟨rfl, hb5⟩
  have h2' : ¬ (4 : Int) < (t : Int) := by omega
  by_cases h3 : xt = t
  · have h3' : ((xt : Int) != (t : Int)) = false := by rw [h3]; simp
    by_cases h4 : ch < 0
    · clear h hI hX ht h3
      go_enter Tryd.func7, Tryd.ntmps7; go_wp2_with (go_at_call 11; refine (HKN.out _ HB.out).mono ?_; rintro e w5 ⟨rfl, hb5⟩); go_ret; exact ⟨rfl, hb5⟩
    by_cases h5 : mo < ch
    · clear h hI hX ht h3
      go_enter Tryd.func7, Tryd.ntmps7; go_wp2_with (go_at_call 11; refine (HKN.out _ HB.out).mono ?_; rintro e w5 ⟨rfl, hb5⟩); go_ret; exact ⟨rfl, hb5⟩
    by_cases h6 : 1000 < mo
    · clear h hI hX ht h3
      go_enter Tryd.func7, Tryd.ntmps7; go_wp2_with (go_at_call 11; refine (HKN.out _ HB.out).mono ?_; rintro e w5 ⟨rfl, hb5⟩); go_ret; exact ⟨rfl, hb5⟩
    subst h3
    exact Mv_loop a xt c im xa xc fm ch mo w ⟨h, hX⟩ (by omega) (by omega) ⟨by omega, by omega, by omega⟩
  · have h3' : ((xt : Int) != (t : Int)) = true := by rw [bne_iff_ne]; omega
    clear h hI hX ht h3
    go_enter Tryd.func7, Tryd.ntmps7; go_wp2_with (go_at_call 11; refine (HKN.out _ HB.out).mono ?_; rintro e w5 ⟨rfl, hb5⟩); go_ret; exact ⟨rfl, hb5⟩
end Go.Proofs.YtlfegmjdheddjaaDoor
