/- The statement PlaneTogether: its walk from the muon's hits to the events. -/
import Derived.Test.YtgcepjminlapiaaLawT
namespace Go.Proofs.Ytgcepjminlapiaa
open Go.RowKit
set_option linter.unusedVariables false
set_option linter.unusedSimpArgs false
set_option maxRecDepth 100000 in
set_option maxHeartbeats 2000000 in
theorem PT_mid (a : Option Addr) (n c : Nat) (ps : Nat → PR) (time : Int) (w : World) (B : Nat) (hBw : B ≤ w.heap.size) (hP : Planes B w a n ps) (oa : Option Addr) (on od : Nat) (os : Nat → HV) (hO : Hits B w oa on os) (va : Option Addr) (vc i : Nat) (hs : Nat → HV) (rs : Nat → SV) (hCk : checkB n ps = true)
    (hm : i ≤ 10) (hm0 : i ≠ 0) (ho : on ≤ 10) (w1 : World) (hTL : TL a n c w va vc i (hC (tgL ps time hs rs i)) w1) (hTG : ∀ j, j < i → tgB n ps time (hs j) (rs j) = true) (u0 u2 u3 u6 u7 u8 u9 u10 u12 u13 u14 u15 u16 u17 u18 u19 u20 u21 u22 u23 u24 u25 u26 u27 u28 u29 u30 u31 u32 u33 u34 u35 u36 u37 u38 u39 u40 u41 u42 u43 u44 u45 u46 u47 u48 u49 u50 u51 u52 u53 u54 u55 u56 u57 u58 u59 u60 u61 u62 u63 u64 u65 u66 u67 u68 u69 u70 u71 u72 u73 u74 u75 u76 u77 u78 u79 u80 u81 u82 u83 u84 u85 u86 u87 u88 u89 u90 u91 u92 u93 u94 u95 u96 u97 u98 u99 u100 u101 u102 u103 u104 u105 u106 u107 u108 u109 u110 u111 u112 u113 u114 u115 u116 u117 u118 u119 u120 u121 u122 u123 u124 u125 u126 u127 u128 u129 u130 u131 u132 u133 u134 u135 u136 u137 u138 u139 u140 u141 u142 u143 u144 u145 u146 u147 u148 u149 u150 u151 u152 u153 u154 u155 u156 u157 u158 u159 u160 u161 u162 u163 u164 u165 u166 u167 u168 u169 u170 u171 u172 u173 u174 u175 u176 u177 u178 u179 u180 u181 u182 u183 u184 u185 u186 u187 u188 u189 u190 u191 u192 u193 u194 u195 u196 u197 u198 u199 u200 u201 u202 u203 u204 u205 u206 u207 u208 u209 u210 u211 u212 u213 u214 u215 u216 u217 u218 u219 u220 u221 u222 u223 u224 u225 u226 u227 u228 u229 u230 u231 u232 u233 u234 u235 u236 u237 u238 u239 u240 u241 u242 u243 u244 u245 u246 u247 u248 u249 u250 u251 u252 u253 u254 u255 u256 u257 u258 u259 u260 u261 u262 u263 u264 u265 u266 u267 u268 u269 u270 u271 u272 u273 u274 u275 u276 u277 u278 u279 u280 u281 u282 u283 u284 u285 u286 u287 u288 u289 u290 u291 u292 u293 u294 u295 u296 u297 u298 u299 u300 u301 u302 u303 u304 u305 u306 : Value) :
    (ptFrom 4).wp Try.prog (bodyPost Try.prog Try.f14 (ptPost w)) ⟨#[u0, .int .i64 time, u2, u3, .slice oa on od, .pointer (some ⟨w.heap.size, 0, none⟩), u6, u7, u8, u9, u10, .slice va i vc, u12, u13, u14, u15, u16, u17, u18, u19, u20, u21, u22, u23, u24, u25, u26, u27, u28, u29, u30, u31, u32, u33, u34, u35, u36, u37, u38, u39, u40, u41, u42, u43, u44, u45, u46, u47, u48, u49, u50, u51, u52, u53, u54, u55, u56, u57, u58, u59, u60, u61, u62, u63, u64, u65, u66, u67, u68, u69, u70, u71, u72, u73, u74, u75, u76, u77, u78, u79, u80, u81, u82, u83, u84, u85, u86, u87, u88, u89, u90, u91, u92, u93, u94, u95, u96, u97, u98, u99, u100, u101, u102, u103, u104, u105, u106, u107, u108, u109, u110, u111, u112, u113, u114, u115, u116, u117, u118, u119, u120, u121, u122, u123, u124, u125, u126, u127, u128, u129, u130, u131, u132, u133, u134, u135, u136, u137, u138, u139, u140, u141, u142, u143, u144, u145, u146, u147, u148, u149, u150, u151, u152, u153, u154, u155, u156, u157, u158, u159, u160, u161, u162, u163, u164, u165, u166, u167, u168, u169, u170, u171, u172, u173, u174, u175, u176, u177, u178, u179, u180, u181, u182, u183, u184, u185, u186, u187, u188, u189, u190, u191, u192, u193, u194, u195, u196, u197, u198, u199, u200, u201, u202, u203, u204, u205, u206, u207, u208, u209, u210, u211, u212, u213, u214, u215, u216, u217, u218, u219, u220, u221, u222, u223, u224, u225, u226, u227, u228, u229, u230, u231, u232, u233, u234, u235, u236, u237, u238, u239, u240, u241, u242, u243, u244, u245, u246, u247, u248, u249, u250, u251, u252, u253, u254, u255, u256, u257, u258, u259, u260, u261, u262, u263, u264, u265, u266, u267, u268, u269, u270, u271, u272, u273, u274, u275, u276, u277, u278, u279, u280, u281, u282, u283, u284, u285, u286, u287, u288, u289, u290, u291, u292, u293, u294, u295, u296, u297, u298, u299, u300, u301, u302, u303, u304, u305, u306], []⟩ w1 := by
  have HP := Lib.hid hP
  have HO := Lib.hid hO
  have hn := (checkB_n hCk).2
  clear hP hO
  have HTL := Lib.hid hTL
  have HTG := Lib.hid hTG
  clear hTL hTG
  obtain ⟨l0, l1, l2, l3⟩ := HTL.out.lf
  have hLL := tgL_len (ps := ps) (t := time) (hs := hs) (rs := rs) i
  have HLG := Lib.hid (fun j (hj : j < i) => tgL_get (ps := ps) (t := time) (hs := hs) (rs := rs) (z := hv0) i j hj)
  have hmx : i ≤ maxLen := by unfold maxLen; omega
  have HLH := Lib.hid (own_hits HTL.out.own hmx).2.2
  have hcap : i ≤ vc ∧ vc ≤ maxLen := by
    rcases HTL.out.own.2 with ⟨_, h0⟩ | ⟨g, cap, cur, hv, _, _, hnc, hcm, _⟩
    · exact absurd h0 hm0
    · injection hv with _ _ h3
      rw [h3]; exact ⟨hnc, hcm⟩
  generalize hlg : tgL ps time hs rs i = LL at *
  have HLGE := Lib.hid hlg
  clear hlg
  generalize hhl : (fun j => LL.getD j hv0) = hl at *
  have HHL := Lib.hid hhl
  have HGL := Lib.hid (fun j (hj : j < i) => show hl j = tgH ps time (hs j) (rs j) from by rw [← HHL.out]; exact HLG.out j hj)
  clear hhl
  have hall : ∀ j, j < i → ofB n ps (hl j) = true := fun j hj => by rw [HGL.out j hj]; exact tgB_of (HTG.out j hj)
  have hE : allE n ps i hl = 0 := by unfold allE hitsB checkE; rw [if_neg (by omega), hCk, allUpto_true hall]; rfl
  have hlo : cL (tlOf ps hl) (i - 1) ≤ time := cL_le _ (fun j hj => by
    have h1 := tgB_time hCk (HTG.out j (by omega))
    unfold tlOf
    rw [HGL.out j (by omega)]
    exact h1.1)
  have hhi : time ≤ cH (thOf ps hl) (i - 1) := le_cH _ (fun j hj => by
    have h1 := tgB_time hCk (HTG.out j (by omega))
    unfold thOf
    rw [HGL.out j (by omega)]
    exact h1.2)
  have HALL := Lib.hid hall
  obtain ⟨CL, hCL⟩ : ∃ v, v = cL (tlOf ps hl) (i - 1) := ⟨_, rfl⟩
  obtain ⟨CH, hCH⟩ : ∃ v, v = cH (thOf ps hl) (i - 1) := ⟨_, rfl⟩
  have HCM := Lib.hid (show Calls Try.prog 35 #[setupV a n c, .slice va i vc] w1 (fun e w' => e = .returned (.tuple #[.agg #[.int .i64 CL, .int .i64 CH], .int .i64 0]) ∧ Below w1.heap.size w1 w') from by
    have h1 := Common_ok a n c ps va i vc hl w1 w1.heap.size (Nat.le_refl _) ((HP.out.below (l3.mono hBw)).up (by omega)) HLH.out hE (by omega) hcap.1 hcap.2
    rw [if_neg (by omega), ← hCL, ← hCH] at h1
    exact h1)
  rw [← hCL] at hlo
  rw [← hCH] at hhi
  clear hCL hCH hE hall hcap
  conv => arg 2; whnf
  go_upto_region 22 with (go_at_call 35; (with_reducible refine HCM.out.mono ?_); rintro e wy ⟨rfl, hby⟩; have HTL2 := Lib.hid (HTL.out.step hby); have HBW := Lib.hid hby; have hL := LF_step ⟨l0, l1, l2, l3⟩ hby; clear l0 l1 l2 l3; obtain ⟨l0, l1, l2, l3⟩ := hL; clear hby)
  have hbx : Below wy.heap.size wy (wy.alloc (.cells #[.int .i64 CL, .int .i64 CH] 34)) := (Below.refl _ _).alloc (Nat.le_refl _) _
  have HTL3 := Lib.hid (HTL2.out.step hbx)
  have HBW2 := Lib.hid (HBW.out.trans (hbx.mono HBW.out.size))
  clear HTL HTL2 HBW HCM l0 l1 l2 l3 hbx
  obtain ⟨l0, l1, l2, l3⟩ := HTL3.out.lf
  generalize World.alloc wy _ = V1 at *
  generalize wy.heap.size = tx at *
  go_wp2
  go_loopw [17] (fun t wx => ∃ k2 : Nat, k2 ≤ on ∧ t = .int .i64 (k2 : Int) ∧ Hid (∀ j, j < k2 → ofB n ps (os j) = true) ∧ Hid (TL a n c w va vc i (hC LL) wx ∧ Below w1.heap.size w1 wx)) (fun t _ => on - (intOf t).toNat)
  case atStart => exact ⟨0, Nat.zero_le _, rfl, Lib.hid (fun j h => by omega), Lib.hid ⟨HTL3.out, HBW2.out⟩⟩
  case round =>
    clear HTL3 HBW2 l0 l1 l2 l3
    obtain ⟨k2, hk2, rfl, HOO, HTB3⟩ := hrel
    obtain ⟨l0, l1, l2, l3⟩ := HTB3.out.1.lf
    by_cases hlt2 : k2 < on
    · have hlt2' : (k2 : Int) < (on : Int) := by omega
      obtain ⟨b, off, rfl, hbB, y0, y1, y2, y3, y4, y5⟩ := (HO.out.below (l3.mono hBw)).get hlt2
      have hbz : b < wr.heap.size := by omega
      generalize hgo : os k2 = h at y0 y1 y2 y3 y4 y5
      have HGO := Lib.hid hgo
      clear hgo
      go_upto_region 25 with (fail)
      (refine wp_region_calm (wr.heap.size) (by kernel_rfl) (by kernel_rfl) ?_; (repeat (first | go_big_quiet_step ((go_at_call 20; refine Calls.calm_of (Nat.le_refl _) (refHit_any a n c ps h _ B ?_ ?_ hCk); (· (have := Below.size (Calm.below (by assumption)); omega)); (· exact (HP.out.below (l3.mono hBw)).below (Below.mono (Calm.below _) (by omega))))) | quiet_step ((go_at_call 20; refine Calls.calm_of (Nat.le_refl _) (refHit_any a n c ps h _ B ?_ ?_ hCk); (· (have := Below.size (Calm.below (by assumption)); omega)); (· exact (HP.out.below (l3.mono hBw)).below (Below.mono (Calm.below _) (by omega))))))); refine wpQuiet_nil ?_; intro _ hw'; obtain ⟨xq, hw''⟩ := hw'; subst hw'')
      have HTB4 := Lib.hid (And.intro (HTB3.out.1.step xq.below) (HTB3.out.2.trans (xq.below.mono HTB3.out.2.size)))
      clear HTB3 l0 l1 l2 l3
      obtain ⟨l0, l1, l2, l3⟩ := HTB4.out.1.lf
      cases hof : ofB n ps h
      · go_wp2_with (go_at_call 16; refine (lawKnown_any _).mono ?_; rintro e wy ⟨rfl, hby⟩; have hL := LF_step ⟨l0, l1, l2, l3⟩ hby; clear l0 l1 l2 l3; obtain ⟨l0, l1, l2, l3⟩ := hL; clear hby)
        go_ret
        exact ⟨rfl, l3⟩
      · have HOF := Lib.hid hof
        go_wp2
        go_roundw
        case rel => exact ⟨k2 + 1, by omega, by go_num, Lib.hid (fun j hj => by (by_cases e : j = k2; subst e; rw [HGO.out]; exact HOF.out; exact HOO.out j (by omega))), HTB4⟩
        case measure => simp [intOf]; omega
    · obtain rfl : k2 = on := by omega
      have hlt2' : ¬ (k2 : Int) < (k2 : Int) := by omega
      go_upto_region 27 with (fail)
      go_cut [18, 19] from 28 (fun s18 s19 wx => ∃ cs ea ec, s18 = .slice ea (List.length cs) ec ∧ s19 = .int .i64 0 ∧ Hid (AllSwept (i + k2) (tlOf ps (hcat hl i os k2)) (thOf ps (hcat hl i os k2)) (filmOf ps (hcat hl i os k2)) cs) ∧ Hid (Lists wx.heap.size wx ea (cs.map (byNumber (i + k2)))) ∧ Hid (TL a n c w va vc i (hC LL) wx ∧ Below w1.heap.size w1 wx))
      · have HTB5 := Lib.hid (And.intro (HTB3.out.1.step (Below.refl wr.heap.size wr).drew) (HTB3.out.2.trans ((Below.refl wr.heap.size wr).drew.mono HTB3.out.2.size)))
        have HOW := Lib.hid (World.ownsRow_nil wr.drew wr.drew.heap.size 26 6)
        refine wp_region_any (by kernel_rfl) ?_
        change wpAny _ _ _ _ _ _ _ (World.drew wr)
        have d0 : wr.drew.cell? ⟨w.heap.size, 0, none⟩ = some (.slice a n c) := HTB5.out.1.lf.1
        have HPd := Lib.hid (HP.out.below (HTB5.out.1.lf.2.2.2.mono hBw))
        have HOd := Lib.hid (HO.out.below (HTB5.out.1.lf.2.2.2.mono hBw))
        have HLd := Lib.hid (own_hits HTB5.out.1.own hmx).2.2
        rw [HHL.out] at HLd
        clear HTB3 l0 l1 l2 l3
        obtain ⟨i0, hi0, hz0, hz1, hz2⟩ := info_parts info_hit
        have hwsz : w.heap.size < wr.drew.heap.size := HTB5.out.1.lf.2.2.1
        have hBd : B ≤ wr.drew.heap.size := by omega
        have hm2 : i + k2 ≤ maxLen := by unfold maxLen; omega
        have HEE := Lib.hid (show allE n ps (i + k2) (hcat hl i os k2) = 0 from by unfold allE hitsB checkE; rw [if_neg (by omega), hCk, allUpto_true (fun j hj => by (by_cases h : j < i; rw [hcat_left h]; exact HALL.out j h; rw [hcat_right (by omega) hj]; exact HOO.out _ (by omega)))]; rfl)
        generalize World.drew wr = wd at *
        refine any_of_tail 10 10 (fun w' => w'.cell? ⟨w.heap.size, 0, none⟩ = some (.slice a n c)) (by kernel_rfl) d0 (fun hS => ?_)
        refine headH_take (i := 0) (v := ?_) rfl (by kernel_rfl) (fun _ _ _ h => h) (Or.inl ⟨by rfl, ?_⟩) (by assumption) ?_; rotate_left; (· intro w' hSw; (try dsimp only at hSw); go_simp; (try with_reducible rfl)); (try dsimp only [Act.put]); (try simp only [List.setIfInBounds_toArray, List.set_cons_zero, List.set_cons_succ])
        refine headH_take (i := 1) (v := ?_) rfl (by kernel_rfl) (fun _ _ _ h => h) (Or.inl ⟨by rfl, ?_⟩) (by assumption) ?_; rotate_left; (· intro w' hSw; (try dsimp only at hSw); go_simp; (try with_reducible rfl)); (try dsimp only [Act.put]); (try simp only [List.setIfInBounds_toArray, List.set_cons_zero, List.set_cons_succ])
        refine headH_take (i := 3) (v := ?_) rfl (by kernel_rfl) (fun _ _ _ h => h) (Or.inl ⟨by rfl, ?_⟩) (by assumption) ?_; rotate_left; (· intro w' hSw; (try dsimp only at hSw); go_simp; (try with_reducible rfl)); (try dsimp only [Act.put]); (try simp only [List.setIfInBounds_toArray, List.set_cons_zero, List.set_cons_succ])
        refine headH_all (rs := [2]) (by kernel_rfl) (by simp) (by kernel_rfl) ?_; intro i0 hi0; simp only [List.mem_cons, List.not_mem_nil, or_false] at hi0
        subst hi0
        refine headH_op rfl (fun K hK => ?_)
        refine step_append_src rfl _ _ 65 rfl wd.heap.size 26 i0 _ 6 48 Try.underlying65 hi0 hz0 hz1 hz2 rfl (by decide) (.slice none 0 0) 0 _ rfl HOW.out _ i _ (hC (hL hl i)) rfl (by rw [hC_len, hL_len]) (hits_news HLd.out) (hC_one_cell _) (by omega) (by omega) (Nat.le_refl _) ?_
        intro v1 W1 hown1 hgrow1
        rw [Nat.zero_add, List.nil_append] at hown1
        have HB1 := Lib.hid ((Below.refl wd.heap.size wd).grown hgrow1 (Nat.le_refl _) (fun k e => by cases e))
        have HOW1 := Lib.hid hown1
        clear hown1 hgrow1 HOW
        refine hK.out _ _ (((bcell HB1.out).1 _ _ (by omega)).trans d0) (fun hS1 => ?_)
        clear hK K
        (try dsimp only [Act.put]); (try simp only [List.setIfInBounds_toArray, List.set_cons_zero, List.set_cons_succ])
        refine headH_all (rs := [4]) (by kernel_rfl) (by simp) (by kernel_rfl) ?_; intro i0 hi0; simp only [List.mem_cons, List.not_mem_nil, or_false] at hi0
        subst hi0
        refine headH_op rfl (fun K hK => ?_)
        refine step_append_src rfl _ _ 65 rfl wd.heap.size 26 i0 _ 6 48 Try.underlying65 hi0 hz0 hz1 hz2 rfl (by decide) v1 i _ rfl HOW1.out _ k2 _ (hC (hL os k2)) rfl (by rw [hC_len, hL_len]) (hits_news (HOd.out.below (HB1.out.mono (by omega)))) (hC_one_cell _) (by omega) (by omega) HB1.out.size ?_
        intro v2 W2 hown2 hgrow2
        rw [← hC_append] at hown2
        have HB2 := Lib.hid (HB1.out.grown hgrow2 HB1.out.size (fun k e => (HOW1.out.lt k e).1))
        obtain ⟨ea, ec, rfl⟩ := own_len hown2
        have HHC := Lib.hid (show Hits W2.heap.size W2 ea (i + k2) (hcat hl i os k2) from (own_hits hown2 (by omega)).2.2)
        clear hown2 hgrow2 HOW1
        refine hK.out _ _ (((bcell HB2.out).1 _ _ (by omega)).trans d0) (fun hS2 => ?_)
        clear hK K
        (try dsimp only [Act.put]); (try simp only [List.setIfInBounds_toArray, List.set_cons_zero, List.set_cons_succ])
        refine headH_all (rs := [5]) (by kernel_rfl) (by simp) (by kernel_rfl) ?_; intro i0 hi0; simp only [List.mem_cons, List.not_mem_nil, or_false] at hi0
        subst hi0
        refine headH_op rfl (fun K hK => ?_)
        go_simp
        go_at_call 44
        refine (Events_ok a n c ps ea (i + k2) ec (hcat hl i os k2) W2 W2.heap.size (Nat.le_refl _) ((HPd.out.below (HB2.out.mono hBd)).up (Nat.le_trans hBd HB2.out.size)) HHC.out HEE.out).mono ?_
        rintro e W3 ⟨cs, la, lc, hsw, rfl, hls, hb3⟩
        dsimp only
        have HB3 := Lib.hid (HB2.out.trans (hb3.mono HB2.out.size))
        have HSW := Lib.hid hsw
        have HLS := Lib.hid hls
        clear hsw hls hb3 HB2
        refine hK.out _ _ (((bcell HB3.out).1 _ _ (by omega)).trans d0) (fun hS3 => ?_)
        clear hK K
        (try dsimp only [Act.put]); (try simp only [List.setIfInBounds_toArray, List.set_cons_zero, List.set_cons_succ])
        refine headH_take (i := 6) (v := ?_) rfl (by kernel_rfl) (fun _ _ _ h => h) (Or.inl ⟨by rfl, ?_⟩) (by assumption) ?_; rotate_left; (· intro w' hSw; (try dsimp only at hSw); go_simp; (try with_reducible rfl)); (try dsimp only [Act.put]); (try simp only [List.setIfInBounds_toArray, List.set_cons_zero, List.set_cons_succ])
        refine headH_take (i := 7) (v := ?_) rfl (by kernel_rfl) (fun _ _ _ h => h) (Or.inl ⟨by rfl, ?_⟩) (by assumption) ?_; rotate_left; (· intro w' hSw; (try dsimp only at hSw); go_simp; (try with_reducible rfl)); (try dsimp only [Act.put]); (try simp only [List.setIfInBounds_toArray, List.set_cons_zero, List.set_cons_succ])
        refine headH_take (i := 8) (v := ?_) rfl (by kernel_rfl) (fun _ _ _ h => h) (Or.inl ⟨by rfl, ?_⟩) (by assumption) ?_; rotate_left; (· intro w' hSw; (try dsimp only at hSw); go_simp; (try with_reducible rfl)); (try dsimp only [Act.put]); (try simp only [List.setIfInBounds_toArray, List.set_cons_zero, List.set_cons_succ])
        refine headH_take (i := 9) (v := ?_) rfl (by kernel_rfl) (fun _ _ _ h => h) (Or.inl ⟨by rfl, ?_⟩) (by assumption) ?_; rotate_left; (· intro w' hSw; (try dsimp only at hSw); go_simp; (try with_reducible rfl)); (try dsimp only [Act.put]); (try simp only [List.setIfInBounds_toArray, List.set_cons_zero, List.set_cons_succ])
        change tailL _ _ _ _ _ _ _ _
        refine ⟨by kernel_rfl, ?_⟩
        simp only [List.drop_succ_cons, List.drop_zero]
        go_wp2
        go_meet
        exact ⟨cs, la, lc, rfl, rfl, HSW, HLS, Lib.hid ⟨HTB5.out.1.step HB3.out, HTB5.out.2.trans (HB3.out.mono HTB5.out.2.size)⟩⟩
      · rename_i hKK
        obtain ⟨cs, la, lc, rfl, rfl, HSW, HLS, HT4⟩ := hcut
        refine hKK _ _ ?_
        exact PT_ev a n c ps time w B hBw HP.out oa k2 od os HO.out va vc i LL (hcat hl i os k2) hm ho (fun j hj => (hcat_left hj).trans (congrFun HHL.out j).symm) (i + k2) (Nat.le_refl _) (Nat.le_refl _) (fun j h1 h2 => hcat_right h1 h2)
          (fun j hj => by (by_cases h : j < i; rw [hcat_left h]; exact HALL.out j h; rw [hcat_right (by omega) hj]; exact HOO.out _ (by omega)))
          (fun j hj => by
            have h1 := tgB_time hCk (HTG.out j hj)
            unfold tlOf thOf
            rw [hcat_left hj, HGL.out j hj]
            exact h1)
          cs HSW.out la lc cs.length (Nat.le_refl _) (Nat.le_refl _) _ HLS.out HT4.out.1 _ _ _ _ _ _ _ _ _ _ _ _ _ _ _ _ _ _ _ _ _ _ _ _ _ _ _ _ _ _ _ _ _ _ _ _ _ _ _ _ _ _ _ _ _ _ _ _ _ _ _ _ _ _ _ _ _ _ _ _ _ _ _ _ _ _ _ _ _ _ _ _ _ _ _ _ _ _ _ _ _ _ _ _ _ _ _ _ _ _ _ _ _ _ _ _ _ _ _ _ _ _ _ _ _ _ _ _ _ _ _ _ _ _ _ _ _ _ _ _ _ _ _ _ _ _ _ _ _ _ _ _ _ _ _ _ _ _ _ _ _ _ _ _ _ _ _ _ _ _ _ _ _ _ _ _ _ _ _ _ _ _ _ _ _ _ _ _ _ _ _ _ _ _ _ _ _ _ _ _ _ _ _ _ _ _ _ _ _ _ _ _ _ _ _ _ _ _ _ _ _ _ _ _ _ _ _ _ _ _ _ _ _ _ _ _ _ _ _ _ _ _ _ _ _ _ _ _ _ _ _ _ _ _ _ _ _ _ _ _ _ _ _ _ _ _ _ _ _ _ _ _ _ _ _ _ _ _ _ _ _ _ _ _ _ _ _ _ _ _ _ _ _ _ _ _ _ _ _ _ _ _ _ _ _ _ _ _ _ _ _ _ _ _ _ _ _ _ _ _ _ _
end Go.Proofs.Ytgcepjminlapiaa
