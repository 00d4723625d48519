/- The walk of the statement ImageMoves behind its loop over the images. -/
import Derived.Test.YtlfegmjdheddjaaDoorGxfA
import Derived.Test.YtlfegmjdheddjaaDoorGxaA
import Derived.Test.YtlfegmjdheddjaaDoorGcA
namespace Go.Proofs.YtlfegmjdheddjaaDoor
open Go.RowKit
set_option linter.unusedVariables false
set_option linter.unusedSimpArgs false
set_option maxRecDepth 100000 in
set_option maxHeartbeats 4000000 in
theorem mv_N (a : Option Addr) (t c : Nat) (im : Nat → IM) (xa : Option Addr) (xc : Nat) (fm : Nat → FM) (ch mo : Int) (w : World) (h : MvIn a t im xa fm w) (hg : MvG t im) (hch : 0 ≤ ch ∧ ch ≤ mo ∧ mo ≤ 1000) (hB : allUpto t (fun i => !(im i).F.isEmpty) = false) (W : World) (u4 u5 u6 u7 u8 u10 u11 u12 u13 u14 u15 u16 u17 u18 u19 u20 u21 u22 u23 u24 u25 u26 u27 u28 u29 u30 u31 u32 u33 u34 u35 u36 u37 u38 u39 u40 u41 u42 u43 u44 u45 u46 u47 u48 u49 u50 u51 u52 u53 u54 u55 u56 u57 u58 u59 u60 u61 u62 u63 u64 u65 u66 u67 u68 u69 u70 u71 u72 u73 u74 u75 u76 u77 u78 u79 u80 u81 u82 u83 u84 u85 u86 u87 u88 u89 u90 u91 u92 u93 u94 u95 u96 u97 u98 u99 u100 u101 u102 u103 u104 u105 u106 u107 u108 u109 u110 u111 u112 u113 u114 u115 u116 u117 u118 u119 u120 u121 u122 u123 u124 u125 u126 u127 u128 u129 u130 u131 u132 u133 u134 u135 u136 u137 u138 u139 u140 u141 u142 u143 u144 u145 u146 u147 u148 u149 u150 u151 u152 u153 u154 u155 u156 u157 u158 u159 u160 u161 u162 u163 u164 u165 u166 u167 u168 u169 u170 u171 u172 u173 u174 u175 u176 u177 u178 u179 u180 u181 u182 u183 u184 u185 u186 u187 u188 u189 u190 u191 u192 u193 u194 u195 u196 u197 u198 u199 u200 u201 u202 u203 u204 u205 u206 u207 u208 u209 u210 u211 u212 u213 u214 u215 u216 u217 u218 u219 u220 u221 u222 u223 u224 u225 u226 u227 u228 u229 u230 u231 u232 u233 u234 u235 u236 u237 u238 u239 u240 u241 u242 u243 u244 u245 u246 u247 u248 u249 u250 u251 u252 u253 u254 u255 u256 u257 u258 u259 u260 u261 u262 u263 u264 u265 u266 u267 u268 u269 u270 u271 u272 u273 u274 u275 u276 u277 u278 u279 u280 u281 u282 u283 u284 u285 u286 u287 u288 u289 u290 u291 u292 u293 u294 u295 u296 u297 u298 u299 u300 u301 u302 u303 u304 u305 u306 u307 u308 u309 u310 u311 u312 u313 u314 u315 u316 u317 u318 u319 u320 u321 u322 u323 u324 u325 u326 u327 u328 u329 u330 u331 u332 : Value) (hb : Below w.heap.size w W) :
    (mvFrom 4).wp Tryd.prog (bodyPost Tryd.prog Tryd.f7 (mvPost w)) ⟨#[.slice a t c, .slice xa t xc, .int .i64 ch, .int .i64 mo, u4, u5, u6, u7, u8, .bool (ownB im fm ch t), u10, u11, u12, u13, u14, u15, u16, u17, u18, u19, u20, u21, u22, u23, u24, u25, u26, u27, u28, u29, u30, u31, u32, u33, u34, u35, u36, u37, u38, u39, u40, u41, u42, u43, u44, u45, u46, u47, u48, u49, u50, u51, u52, u53, u54, u55, u56, u57, u58, u59, u60, u61, u62, u63, u64, u65, u66, u67, u68, u69, u70, u71, u72, u73, u74, u75, u76, u77, u78, u79, u80, u81, u82, u83, u84, u85, u86, u87, u88, u89, u90, u91, u92, u93, u94, u95, u96, u97, u98, u99, u100, u101, u102, u103, u104, u105, u106, u107, u108, u109, u110, u111, u112, u113, u114, u115, u116, u117, u118, u119, u120, u121, u122, u123, u124, u125, u126, u127, u128, u129, u130, u131, u132, u133, u134, u135, u136, u137, u138, u139, u140, u141, u142, u143, u144, u145, u146, u147, u148, u149, u150, u151, u152, u153, u154, u155, u156, u157, u158, u159, u160, u161, u162, u163, u164, u165, u166, u167, u168, u169, u170, u171, u172, u173, u174, u175, u176, u177, u178, u179, u180, u181, u182, u183, u184, u185, u186, u187, u188, u189, u190, u191, u192, u193, u194, u195, u196, u197, u198, u199, u200, u201, u202, u203, u204, u205, u206, u207, u208, u209, u210, u211, u212, u213, u214, u215, u216, u217, u218, u219, u220, u221, u222, u223, u224, u225, u226, u227, u228, u229, u230, u231, u232, u233, u234, u235, u236, u237, u238, u239, u240, u241, u242, u243, u244, u245, u246, u247, u248, u249, u250, u251, u252, u253, u254, u255, u256, u257, u258, u259, u260, u261, u262, u263, u264, u265, u266, u267, u268, u269, u270, u271, u272, u273, u274, u275, u276, u277, u278, u279, u280, u281, u282, u283, u284, u285, u286, u287, u288, u289, u290, u291, u292, u293, u294, u295, u296, u297, u298, u299, u300, u301, u302, u303, u304, u305, u306, u307, u308, u309, u310, u311, u312, u313, u314, u315, u316, u317, u318, u319, u320, u321, u322, u323, u324, u325, u326, u327, u328, u329, u330, u331, u332], []⟩ W := by
  conv => arg 2; whnf
  have HKN := Lib.hid (fun (W : World) (hb : Below w.heap.size w W) => h.is.known hb)
  have HB := Lib.hid hb
  have hE : movE t im true = 5 := by rw [hg.movE, if_pos hB]
  have HCA := Lib.hid (fun (W : World) (hb : Below w.heap.size w W) => h.is.calmE (c := c) hE (by decide) hb)
  have HEP := Lib.hid (fun (W : World) (hb : Below w.heap.size w W) => h.is.epE (c := c) (ch := ch) (E := 5) (by rw [inB_iff.2 ⟨hch.1, by omega⟩]; exact hE) (by decide) hb)
  have HEQ := Lib.hid (fun (W : World) (hb : Below w.heap.size w W) => h.is.epE (c := c) (ch := mo) (E := 5) (by rw [inB_iff.2 ⟨by omega, hch.2.2⟩]; exact hE) (by decide) hb)
  have ho : ownB im fm ch t = false := by
    cases e : ownB im fm ch t
    · rfl
    · have := hg.some e
      rw [allUpto_true (fun i hi => by cases e2 : (im i).F; exact absurd e2 (this i hi); rfl)] at hB
      cases hB
  rw [ho]
  generalize hres : mvPost w = RES; have HR := Lib.hid (fun (w' : World) (hb : Below w.heap.size w w') => show RES (.returned (.bool true)) w' from hres ▸ ⟨rfl, hb⟩); clear hres; have m1 : True := trivial
  clear h hg hch hB hb hE ho
  go_wp2_with (first | (go_at_call 30; have _ := m1; clear m1; refine (HEP.out _ HB.out).mono ?_; rintro e w2 ⟨rfl, hb2⟩; have HBx := Lib.hid (HB.out.trans ((hb2).mono HB.out.size)); clear HB; have HB := HBx; clear HBx; clear hb2) | (go_at_call 30; refine (HEQ.out _ HB.out).mono ?_; rintro e w3 ⟨rfl, hb3⟩; have HBx := Lib.hid (HB.out.trans ((hb3).mono HB.out.size)); clear HB; have HB := HBx; clear HBx; clear hb3) | (go_at_call 31; refine (HCA.out _ HB.out).mono ?_; rintro e w4 ⟨rfl, hb4⟩; have HBx := Lib.hid (HB.out.trans ((hb4).mono HB.out.size)); clear HB; have HB := HBx; clear HBx; clear hb4) | (go_at_call 11; refine (HKN.out _ HB.out).mono ?_; rintro e w9 ⟨rfl, hb9⟩; have HBx := Lib.hid (HB.out.trans ((hb9).mono HB.out.size)); clear HB; have HB := HBx; clear HBx; clear hb9))
  exact HR.out _ HB.out
set_option maxRecDepth 100000 in
set_option maxHeartbeats 4000000 in
theorem mv_C12 (a : Option Addr) (t c : Nat) (im : Nat → IM) (xa : Option Addr) (xc : Nat) (fm : Nat → FM) (ch mo : Int) (w : World) (h : MvIn a t im xa fm w) (hg : MvG t im) (hc : EpC t im) (hch : 0 ≤ ch ∧ ch ≤ mo ∧ mo ≤ 1000) (hH : histF (im 0).cn ch (fun i => (im i).F) t 0 = []) (W : World) (u4 u5 u6 u7 u8 u10 u11 u12 u13 u14 u15 u16 u17 u18 u19 u20 u21 u22 u23 u24 u25 u26 u27 u28 u29 u30 u31 u32 u33 u34 u35 u36 u37 u38 u39 u40 u41 u42 u43 u44 u45 u46 u47 u48 u49 u50 u51 u52 u53 u54 u55 u56 u57 u58 u59 u60 u61 u62 u63 u64 u65 u66 u67 u68 u69 u70 u71 u72 u73 u74 u75 u76 u77 u78 u79 u80 u81 u82 u83 u84 u85 u86 u87 u88 u89 u90 u91 u92 u93 u94 u95 u96 u97 u98 u99 u100 u101 u102 u103 u104 u105 u106 u107 u108 u109 u110 u111 u112 u113 u114 u115 u116 u117 u118 u119 u120 u121 u122 u123 u124 u125 u126 u127 u128 u129 u130 u131 u132 u133 u134 u135 u136 u137 u138 u139 u140 u141 u142 u143 u144 u145 u146 u147 u148 u149 u150 u151 u152 u153 u154 u155 u156 u157 u158 u159 u160 u161 u162 u163 u164 u165 u166 u167 u168 u169 u170 u171 u172 u173 u174 u175 u176 u177 u178 u179 u180 u181 u182 u183 u184 u185 u186 u187 u188 u189 u190 u191 u192 u193 u194 u195 u196 u197 u198 u199 u200 u201 u202 u203 u204 u205 u206 u207 u208 u209 u210 u211 u212 u213 u214 u215 u216 u217 u218 u219 u220 u221 u222 u223 u224 u225 u226 u227 u228 u229 u230 u231 u232 u233 u234 u235 u236 u237 u238 u239 u240 u241 u242 u243 u244 u245 u246 u247 u248 u249 u250 u251 u252 u253 u254 u255 u256 u257 u258 u259 u260 u261 u262 u263 u264 u265 u266 u267 u268 u269 u270 u271 u272 u273 u274 u275 u276 u277 u278 u279 u280 u281 u282 u283 u284 u285 u286 u287 u288 u289 u290 u291 u292 u293 u294 u295 u296 u297 u298 u299 u300 u301 u302 u303 u304 u305 u306 u307 u308 u309 u310 u311 u312 u313 u314 u315 u316 u317 u318 u319 u320 u321 u322 u323 u324 u325 u326 u327 u328 u329 u330 u331 u332 : Value) (hb : Below w.heap.size w W) :
    (mvFrom 4).wp Tryd.prog (bodyPost Tryd.prog Tryd.f7 (mvPost w)) ⟨#[.slice a t c, .slice xa t xc, .int .i64 ch, .int .i64 mo, u4, u5, u6, u7, u8, .bool (ownB im fm ch t), u10, u11, u12, u13, u14, u15, u16, u17, u18, u19, u20, u21, u22, u23, u24, u25, u26, u27, u28, u29, u30, u31, u32, u33, u34, u35, u36, u37, u38, u39, u40, u41, u42, u43, u44, u45, u46, u47, u48, u49, u50, u51, u52, u53, u54, u55, u56, u57, u58, u59, u60, u61, u62, u63, u64, u65, u66, u67, u68, u69, u70, u71, u72, u73, u74, u75, u76, u77, u78, u79, u80, u81, u82, u83, u84, u85, u86, u87, u88, u89, u90, u91, u92, u93, u94, u95, u96, u97, u98, u99, u100, u101, u102, u103, u104, u105, u106, u107, u108, u109, u110, u111, u112, u113, u114, u115, u116, u117, u118, u119, u120, u121, u122, u123, u124, u125, u126, u127, u128, u129, u130, u131, u132, u133, u134, u135, u136, u137, u138, u139, u140, u141, u142, u143, u144, u145, u146, u147, u148, u149, u150, u151, u152, u153, u154, u155, u156, u157, u158, u159, u160, u161, u162, u163, u164, u165, u166, u167, u168, u169, u170, u171, u172, u173, u174, u175, u176, u177, u178, u179, u180, u181, u182, u183, u184, u185, u186, u187, u188, u189, u190, u191, u192, u193, u194, u195, u196, u197, u198, u199, u200, u201, u202, u203, u204, u205, u206, u207, u208, u209, u210, u211, u212, u213, u214, u215, u216, u217, u218, u219, u220, u221, u222, u223, u224, u225, u226, u227, u228, u229, u230, u231, u232, u233, u234, u235, u236, u237, u238, u239, u240, u241, u242, u243, u244, u245, u246, u247, u248, u249, u250, u251, u252, u253, u254, u255, u256, u257, u258, u259, u260, u261, u262, u263, u264, u265, u266, u267, u268, u269, u270, u271, u272, u273, u274, u275, u276, u277, u278, u279, u280, u281, u282, u283, u284, u285, u286, u287, u288, u289, u290, u291, u292, u293, u294, u295, u296, u297, u298, u299, u300, u301, u302, u303, u304, u305, u306, u307, u308, u309, u310, u311, u312, u313, u314, u315, u316, u317, u318, u319, u320, u321, u322, u323, u324, u325, u326, u327, u328, u329, u330, u331, u332], []⟩ W := by
  conv => arg 2; whnf
  have HKN := Lib.hid (fun (W : World) (hb : Below w.heap.size w W) => h.is.known hb)
  have HB := Lib.hid hb
  obtain ⟨N, hN1, hN2, hN3, hN4⟩ := hc.calm
  have HCA := Lib.hid (fun (W : World) (hb : Below w.heap.size w W) => h.is.calm0 (c := c) hc hN1 hb)
  have HEP := Lib.hid (fun (W : World) (hb : Below w.heap.size w W) => h.is.ep0 (c := c) hc ⟨hch.1, by omega⟩ hH hb)
  have ho : ownB im fm ch t = false := by
    cases e : ownB im fm ch t
    · rfl
    · exact absurd hH ((hist_some hc.t1).2 ⟨_, hg.hist e⟩)
  have hn1 : ¬ (N : Int) ≤ ch := fun e => (calm_hist hc.dense hc.some hc.t1 hch.1).1 (by rw [hN1]; exact e) hH
  rw [ho]
  generalize hres : mvPost w = RES; have HR := Lib.hid (fun (w' : World) (hb : Below w.heap.size w w') => show RES (.returned (.bool true)) w' from hres ▸ ⟨rfl, hb⟩); clear hres; have m1 : True := trivial
  by_cases hM : histF (im 0).cn mo (fun i => (im i).F) t 0 = []
  · have HEQ := Lib.hid (fun (W : World) (hb : Below w.heap.size w W) => h.is.ep0 (c := c) (ch := mo) hc ⟨by omega, hch.2.2⟩ hM hb)
    have hn2 : ¬ (N : Int) ≤ mo := fun e => (calm_hist hc.dense hc.some hc.t1 (by omega)).1 (by rw [hN1]; exact e) hM
    clear h hg hch hb ho hc hH hM hN1 hN2 hN3 hN4
    go_wp2_with (first | (go_at_call 30; have _ := m1; clear m1; refine (HEP.out _ HB.out).mono ?_; rintro e w2 ⟨rfl, hb2⟩; have HBx := Lib.hid (HB.out.trans ((hb2).mono HB.out.size)); clear HB; have HB := HBx; clear HBx; clear hb2) | (go_at_call 30; refine (HEQ.out _ HB.out).mono ?_; rintro e w3 ⟨rfl, hb3⟩; have HBx := Lib.hid (HB.out.trans ((hb3).mono HB.out.size)); clear HB; have HB := HBx; clear HBx; clear hb3) | (go_at_call 31; refine (HCA.out _ HB.out).mono ?_; rintro e w4 ⟨rfl, hb4⟩; have HBx := Lib.hid (HB.out.trans ((hb4).mono HB.out.size)); clear HB; have HB := HBx; clear HBx; clear hb4) | (go_at_call 11; refine (HKN.out _ HB.out).mono ?_; rintro e w9 ⟨rfl, hb9⟩; have HBx := Lib.hid (HB.out.trans ((hb9).mono HB.out.size)); clear HB; have HB := HBx; clear HBx; clear hb9))
    exact HR.out _ HB.out
  · have HEQ := Lib.hid (fun (W : World) (hb : Below w.heap.size w W) => h.is.ep1 (c := c) (ch := mo) hc ⟨by omega, hch.2.2⟩ hM hb)
    have hn2 : (N : Int) ≤ mo := by have := (calm_hist hc.dense hc.some hc.t1 (c := mo) (by omega)).2 hM; omega
    clear h hg hch hb ho hc hH hM hN1 hN2 hN3 hN4
    go_wp2_with (first | (go_at_call 30; have _ := m1; clear m1; refine (HEP.out _ HB.out).mono ?_; rintro e w2 ⟨rfl, hb2⟩; have HBx := Lib.hid (HB.out.trans ((hb2).mono HB.out.size)); clear HB; have HB := HBx; clear HBx; clear hb2) | (go_at_call 30; refine (HEQ.out _ HB.out).mono ?_; rintro e w3 ⟨⟨eq, sq, rfl, hE⟩, hb3⟩; clear hE; have HBx := Lib.hid (HB.out.trans ((hb3).mono HB.out.size)); clear HB; have HB := HBx; clear HBx; clear hb3) | (go_at_call 31; refine (HCA.out _ HB.out).mono ?_; rintro e w4 ⟨rfl, hb4⟩; have HBx := Lib.hid (HB.out.trans ((hb4).mono HB.out.size)); clear HB; have HB := HBx; clear HBx; clear hb4) | (go_at_call 11; refine (HKN.out _ HB.out).mono ?_; rintro e w9 ⟨rfl, hb9⟩; have HBx := Lib.hid (HB.out.trans ((hb9).mono HB.out.size)); clear HB; have HB := HBx; clear HBx; clear hb9))
    exact HR.out _ HB.out
set_option maxRecDepth 100000 in
set_option maxHeartbeats 4000000 in
theorem mv_C3f (a : Option Addr) (t c : Nat) (im : Nat → IM) (xa : Option Addr) (xc : Nat) (fm : Nat → FM) (ch mo : Int) (w : World) (h : MvIn a t im xa fm w) (hg : MvG t im) (hc : EpC t im) (hch : 0 ≤ ch ∧ ch ≤ mo ∧ mo ≤ 1000) (hH : histF (im 0).cn ch (fun i => (im i).F) t 0 ≠ []) (hob : ownB im fm ch t = false) (W : World) (u4 u5 u6 u7 u8 u10 u11 u12 u13 u14 u15 u16 u17 u18 u19 u20 u21 u22 u23 u24 u25 u26 u27 u28 u29 u30 u31 u32 u33 u34 u35 u36 u37 u38 u39 u40 u41 u42 u43 u44 u45 u46 u47 u48 u49 u50 u51 u52 u53 u54 u55 u56 u57 u58 u59 u60 u61 u62 u63 u64 u65 u66 u67 u68 u69 u70 u71 u72 u73 u74 u75 u76 u77 u78 u79 u80 u81 u82 u83 u84 u85 u86 u87 u88 u89 u90 u91 u92 u93 u94 u95 u96 u97 u98 u99 u100 u101 u102 u103 u104 u105 u106 u107 u108 u109 u110 u111 u112 u113 u114 u115 u116 u117 u118 u119 u120 u121 u122 u123 u124 u125 u126 u127 u128 u129 u130 u131 u132 u133 u134 u135 u136 u137 u138 u139 u140 u141 u142 u143 u144 u145 u146 u147 u148 u149 u150 u151 u152 u153 u154 u155 u156 u157 u158 u159 u160 u161 u162 u163 u164 u165 u166 u167 u168 u169 u170 u171 u172 u173 u174 u175 u176 u177 u178 u179 u180 u181 u182 u183 u184 u185 u186 u187 u188 u189 u190 u191 u192 u193 u194 u195 u196 u197 u198 u199 u200 u201 u202 u203 u204 u205 u206 u207 u208 u209 u210 u211 u212 u213 u214 u215 u216 u217 u218 u219 u220 u221 u222 u223 u224 u225 u226 u227 u228 u229 u230 u231 u232 u233 u234 u235 u236 u237 u238 u239 u240 u241 u242 u243 u244 u245 u246 u247 u248 u249 u250 u251 u252 u253 u254 u255 u256 u257 u258 u259 u260 u261 u262 u263 u264 u265 u266 u267 u268 u269 u270 u271 u272 u273 u274 u275 u276 u277 u278 u279 u280 u281 u282 u283 u284 u285 u286 u287 u288 u289 u290 u291 u292 u293 u294 u295 u296 u297 u298 u299 u300 u301 u302 u303 u304 u305 u306 u307 u308 u309 u310 u311 u312 u313 u314 u315 u316 u317 u318 u319 u320 u321 u322 u323 u324 u325 u326 u327 u328 u329 u330 u331 u332 : Value) (hb : Below w.heap.size w W) :
    (mvFrom 4).wp Tryd.prog (bodyPost Tryd.prog Tryd.f7 (mvPost w)) ⟨#[.slice a t c, .slice xa t xc, .int .i64 ch, .int .i64 mo, u4, u5, u6, u7, u8, .bool (ownB im fm ch t), u10, u11, u12, u13, u14, u15, u16, u17, u18, u19, u20, u21, u22, u23, u24, u25, u26, u27, u28, u29, u30, u31, u32, u33, u34, u35, u36, u37, u38, u39, u40, u41, u42, u43, u44, u45, u46, u47, u48, u49, u50, u51, u52, u53, u54, u55, u56, u57, u58, u59, u60, u61, u62, u63, u64, u65, u66, u67, u68, u69, u70, u71, u72, u73, u74, u75, u76, u77, u78, u79, u80, u81, u82, u83, u84, u85, u86, u87, u88, u89, u90, u91, u92, u93, u94, u95, u96, u97, u98, u99, u100, u101, u102, u103, u104, u105, u106, u107, u108, u109, u110, u111, u112, u113, u114, u115, u116, u117, u118, u119, u120, u121, u122, u123, u124, u125, u126, u127, u128, u129, u130, u131, u132, u133, u134, u135, u136, u137, u138, u139, u140, u141, u142, u143, u144, u145, u146, u147, u148, u149, u150, u151, u152, u153, u154, u155, u156, u157, u158, u159, u160, u161, u162, u163, u164, u165, u166, u167, u168, u169, u170, u171, u172, u173, u174, u175, u176, u177, u178, u179, u180, u181, u182, u183, u184, u185, u186, u187, u188, u189, u190, u191, u192, u193, u194, u195, u196, u197, u198, u199, u200, u201, u202, u203, u204, u205, u206, u207, u208, u209, u210, u211, u212, u213, u214, u215, u216, u217, u218, u219, u220, u221, u222, u223, u224, u225, u226, u227, u228, u229, u230, u231, u232, u233, u234, u235, u236, u237, u238, u239, u240, u241, u242, u243, u244, u245, u246, u247, u248, u249, u250, u251, u252, u253, u254, u255, u256, u257, u258, u259, u260, u261, u262, u263, u264, u265, u266, u267, u268, u269, u270, u271, u272, u273, u274, u275, u276, u277, u278, u279, u280, u281, u282, u283, u284, u285, u286, u287, u288, u289, u290, u291, u292, u293, u294, u295, u296, u297, u298, u299, u300, u301, u302, u303, u304, u305, u306, u307, u308, u309, u310, u311, u312, u313, u314, u315, u316, u317, u318, u319, u320, u321, u322, u323, u324, u325, u326, u327, u328, u329, u330, u331, u332], []⟩ W := by
  conv => arg 2; whnf
  have HKN := Lib.hid (fun (W : World) (hb : Below w.heap.size w W) => h.is.known hb)
  have HB := Lib.hid hb
  have HI := Lib.hid h.is.imgs
  have HFM := Lib.hid h.fm
  obtain ⟨N, hN1, hN2, hN3, hN4⟩ := hc.calm
  have HCA := Lib.hid (fun (W : World) (hb : Below w.heap.size w W) => h.is.calm0 (c := c) hc hN1 hb)
  have HEP := Lib.hid (fun (W : World) (hb : Below w.heap.size w W) => h.is.ep1 (c := c) hc ⟨hch.1, by omega⟩ hH hb)
  have hM : histF (im 0).cn mo (fun i => (im i).F) t 0 ≠ [] := (hist_some hc.t1).2 (by
    obtain ⟨g, hg⟩ := (hist_some hc.t1).1 hH
    exact ⟨g, hist_mono hch.2.1 hg⟩)
  have HEQ := Lib.hid (fun (W : World) (hb : Below w.heap.size w W) => h.is.ep1 (c := c) (ch := mo) hc ⟨by omega, hch.2.2⟩ hM hb)
  have hn1 : (N : Int) ≤ ch := by have := (calm_hist hc.dense hc.some hc.t1 (c := ch) hch.1).2 hH; omega
  have hn2 : (N : Int) ≤ mo := by omega
  have HMO := Lib.hid (fun (i k : Nat) (hi : i < t) => bnd_more (fun f => fOf f k) (hist_all hH i hi) (hist_more hch.2.1 hi))
  have HOW := Lib.hid (fun (ho : ownB im fm ch t = true) (i k : Nat) (hi : i < t) (hk : k < (im 0).cn) => hg.own_in ho hi hk)
  have HON := Lib.hid (fun (ho : ownB im fm ch t = true) (i : Nat) (hi : i < t) => show (fm i).n = (im 0).cn from by rw [(fieldB_iff.1 (ownB_up ho i hi).1).1]; exact hg.same i hi)
  have HSM := Lib.hid hg.same
  have hn40 := (good_len (hc.good 0 hc.t1)).2.2
  have ht4 := hg.t4
  have gtt : ((t : Int) != (t : Int)) = false := by simp
  generalize hres : mvPost w = RES; have HR := Lib.hid (fun (w' : World) (hb : Below w.heap.size w w') => show RES (.returned (.bool true)) w' from hres ▸ ⟨rfl, hb⟩); clear hres; have m1 : True := trivial
  clear h hg hch hb hc hH hM hN1 hN2 hN3 hN4
  have hnn : (((im 0).cn : Int) != ((im 0).cn : Int)) = false := by simp
  generalize hn0 : (im 0).cn = n at *
  generalize histF n ch (fun i => (im i).F) t = H at *
  generalize histF n mo (fun i => (im i).F) t = HM at *
  rw [hob] at HOW HON ⊢
  clear hob
  clear hn0
  clear HOW HON HFM
  go_upto_region 21 with (first | (go_at_call 30; have _ := m1; clear m1; refine (HEP.out _ HB.out).mono ?_; rintro e w2 ⟨⟨eb, sb, rfl, hE⟩, hb2⟩; have HE1 := Lib.hid hE; clear hE; have HBx := Lib.hid (HB.out.trans ((hb2).mono HB.out.size)); clear HB; have HB := HBx; clear HBx; clear hb2) | (go_at_call 30; refine (HEQ.out _ HB.out).mono ?_; rintro e w3 ⟨⟨eq, sq, rfl, hE⟩, hb3⟩; have HE2 := Lib.hid hE; clear hE; have HEx := Lib.hid (HE1.out.step hb3); clear HE1; have HE1 := HEx; clear HEx; have HBx := Lib.hid (HB.out.trans ((hb3).mono HB.out.size)); clear HB; have HB := HBx; clear HBx; clear hb3) | (go_at_call 31; refine (HCA.out _ HB.out).mono ?_; rintro e w4 ⟨rfl, hb4⟩; have HEx := Lib.hid (HE1.out.step hb4); clear HE1; have HE1 := HEx; clear HEx; have HEx := Lib.hid (HE2.out.step hb4); clear HE2; have HE2 := HEx; clear HEx; have HBx := Lib.hid (HB.out.trans ((hb4).mono HB.out.size)); clear HB; have HB := HBx; clear HBx; clear hb4))
  rename World => W3
  have HBW := HB
  clear HB HCA HEP HEQ
  go_wp2
  go_loopw [17] (fun s17 wr => ∃ i : Nat, i ≤ t ∧ s17 = .int .i64 (i : Int) ∧ Hid (Below W3.heap.size W3 wr)) (fun s17 _ => t - (intOf s17).toNat)
  case atStart => exact ⟨0, Nat.zero_le _, rfl, Lib.hid (Below.refl _ _)⟩
  case round =>
    obtain ⟨i, hi, rfl, HX⟩ := hrel
    by_cases hlt : i < t
    · have hlt' : (i : Int) < (t : Int) := by omega
      obtain ⟨b0, bS⟩ := (HE1.out.step HX.out).2 i hlt
      obtain ⟨d0, dS⟩ := (HE2.out.step HX.out).2 i hlt
      have hbz := (HE1.out.step HX.out).1
      have hdz := (HE2.out.step HX.out).1
      have HBX := Lib.hid (HBW.out.trans (HX.out.mono HBW.out.size))
      obtain ⟨xb, xo, hxa, hxB, x0, x1, _, _⟩ := (HI.out.below HBX.out).get hlt
      subst hxa
      have hxr : xb < wr.heap.size := by have := HBX.out.size; omega
      rw [HSM.out i hlt] at x0
      clear bS dS
      go_upto_region 24 with (fail)
      (refine wp_region_calm (wr.heap.size) (by kernel_rfl) (by kernel_rfl) ?_; (repeat (first | go_big_quiet_step (fail) | quiet_step (fail))); refine wpQuiet_nil ?_; intro _ hw'; obtain ⟨xq, hw''⟩ := hw'; subst hw'')
      have HX2 := Lib.hid (HX.out.trans ((Calm.below xq).mono HX.out.size))
      generalize Calm.val xq = wq at *
      clear b0 d0 hbz hdz HBX x0 x1 hxr HX
      go_wp2
      go_loopw [18] (fun s18 wr => ∃ k : Nat, k ≤ n ∧ s18 = .int .i64 (k : Int) ∧ Hid (Below W3.heap.size W3 wr)) (fun s18 _ => n - (intOf s18).toNat)
      case atStart => exact ⟨0, Nat.zero_le _, rfl, HX2⟩
      case round =>
        clear HX2
        obtain ⟨k, hk, rfl, HY⟩ := hrel
        obtain ⟨b0, bS⟩ := (HE1.out.step HY.out).2 i hlt
        have hbz := (HE1.out.step HY.out).1
        by_cases hkn : k < n
        · have hkn' : (k : Int) < (n : Int) := by omega
          obtain ⟨d0, dS⟩ := (HE2.out.step HY.out).2 i hlt
          have hdz := (HE2.out.step HY.out).1
          obtain ⟨p0, p1⟩ := bS.cell hkn
          obtain ⟨q0, q1⟩ := dS.cell hkn
          have hpz := bS.lt
          have hqz := dS.lt
          have hmo := HMO.out i k hlt
          generalize bnd (fun f => fOf f k) (H i) = b at *
          generalize bnd (fun f => fOf f k) (HM i) = d at *
          have f3 : ¬ b.lo < d.lo := by omega
          have f4 : ¬ d.hi < b.hi := by omega
          clear bS dS hmo
          go_upto_region 29 with (fail)
          simp only [List.append_eq, List.cons_append, List.nil_append]
          (refine wp_region_calm (wr.heap.size) (by kernel_rfl) (by kernel_rfl) ?_; (repeat (first | go_big_quiet_step (fail) | quiet_step (fail))); refine wpQuiet_nil ?_; intro _ hw'; obtain ⟨xq, hw''⟩ := hw'; subst hw''); have HXx := Lib.hid (HY.out.trans ((Calm.below xq).mono HY.out.size)); generalize Calm.val xq = wq at *; clear HY; go_wp2; go_roundw; (case rel => exact ⟨k + 1, by omega, by go_num, HXx⟩); (case measure => (simp [intOf]; omega))
        · obtain rfl : k = n := by omega
          have hkn' : ¬ (k : Int) < (k : Int) := by omega
          clear bS
          go_wp2
          go_roundw
          case rel => exact ⟨i + 1, by omega, by go_num, HY⟩
          case measure => simp [intOf]; omega
    · obtain rfl : i = t := by omega
      have hlt' : ¬ (i : Int) < (i : Int) := by omega
      have HB := Lib.hid (HBW.out.trans (HX.out.mono HBW.out.size))
      clear HE1 HE2 HX HBW HI
      go_wp2_with (first | (go_at_call 11; refine (HKN.out _ HB.out).mono ?_; rintro e w9 ⟨rfl, hb9⟩; have HBx := Lib.hid (HB.out.trans ((hb9).mono HB.out.size)); clear HB; have HB := HBx; clear HBx; clear hb9))
      exact HR.out _ HB.out
set_option maxRecDepth 100000 in
set_option maxHeartbeats 4000000 in
theorem mv_C3t (a : Option Addr) (t c : Nat) (im : Nat → IM) (xa : Option Addr) (xc : Nat) (fm : Nat → FM) (ch mo : Int) (w : World) (h : MvIn a t im xa fm w) (hg : MvG t im) (hc : EpC t im) (hch : 0 ≤ ch ∧ ch ≤ mo ∧ mo ≤ 1000) (hH : histF (im 0).cn ch (fun i => (im i).F) t 0 ≠ []) (hob : ownB im fm ch t = true) (W : World) (u4 u5 u6 u7 u8 u10 u11 u12 u13 u14 u15 u16 u17 u18 u19 u20 u21 u22 u23 u24 u25 u26 u27 u28 u29 u30 u31 u32 u33 u34 u35 u36 u37 u38 u39 u40 u41 u42 u43 u44 u45 u46 u47 u48 u49 u50 u51 u52 u53 u54 u55 u56 u57 u58 u59 u60 u61 u62 u63 u64 u65 u66 u67 u68 u69 u70 u71 u72 u73 u74 u75 u76 u77 u78 u79 u80 u81 u82 u83 u84 u85 u86 u87 u88 u89 u90 u91 u92 u93 u94 u95 u96 u97 u98 u99 u100 u101 u102 u103 u104 u105 u106 u107 u108 u109 u110 u111 u112 u113 u114 u115 u116 u117 u118 u119 u120 u121 u122 u123 u124 u125 u126 u127 u128 u129 u130 u131 u132 u133 u134 u135 u136 u137 u138 u139 u140 u141 u142 u143 u144 u145 u146 u147 u148 u149 u150 u151 u152 u153 u154 u155 u156 u157 u158 u159 u160 u161 u162 u163 u164 u165 u166 u167 u168 u169 u170 u171 u172 u173 u174 u175 u176 u177 u178 u179 u180 u181 u182 u183 u184 u185 u186 u187 u188 u189 u190 u191 u192 u193 u194 u195 u196 u197 u198 u199 u200 u201 u202 u203 u204 u205 u206 u207 u208 u209 u210 u211 u212 u213 u214 u215 u216 u217 u218 u219 u220 u221 u222 u223 u224 u225 u226 u227 u228 u229 u230 u231 u232 u233 u234 u235 u236 u237 u238 u239 u240 u241 u242 u243 u244 u245 u246 u247 u248 u249 u250 u251 u252 u253 u254 u255 u256 u257 u258 u259 u260 u261 u262 u263 u264 u265 u266 u267 u268 u269 u270 u271 u272 u273 u274 u275 u276 u277 u278 u279 u280 u281 u282 u283 u284 u285 u286 u287 u288 u289 u290 u291 u292 u293 u294 u295 u296 u297 u298 u299 u300 u301 u302 u303 u304 u305 u306 u307 u308 u309 u310 u311 u312 u313 u314 u315 u316 u317 u318 u319 u320 u321 u322 u323 u324 u325 u326 u327 u328 u329 u330 u331 u332 : Value) (hb : Below w.heap.size w W) :
    (mvFrom 4).wp Tryd.prog (bodyPost Tryd.prog Tryd.f7 (mvPost w)) ⟨#[.slice a t c, .slice xa t xc, .int .i64 ch, .int .i64 mo, u4, u5, u6, u7, u8, .bool (ownB im fm ch t), u10, u11, u12, u13, u14, u15, u16, u17, u18, u19, u20, u21, u22, u23, u24, u25, u26, u27, u28, u29, u30, u31, u32, u33, u34, u35, u36, u37, u38, u39, u40, u41, u42, u43, u44, u45, u46, u47, u48, u49, u50, u51, u52, u53, u54, u55, u56, u57, u58, u59, u60, u61, u62, u63, u64, u65, u66, u67, u68, u69, u70, u71, u72, u73, u74, u75, u76, u77, u78, u79, u80, u81, u82, u83, u84, u85, u86, u87, u88, u89, u90, u91, u92, u93, u94, u95, u96, u97, u98, u99, u100, u101, u102, u103, u104, u105, u106, u107, u108, u109, u110, u111, u112, u113, u114, u115, u116, u117, u118, u119, u120, u121, u122, u123, u124, u125, u126, u127, u128, u129, u130, u131, u132, u133, u134, u135, u136, u137, u138, u139, u140, u141, u142, u143, u144, u145, u146, u147, u148, u149, u150, u151, u152, u153, u154, u155, u156, u157, u158, u159, u160, u161, u162, u163, u164, u165, u166, u167, u168, u169, u170, u171, u172, u173, u174, u175, u176, u177, u178, u179, u180, u181, u182, u183, u184, u185, u186, u187, u188, u189, u190, u191, u192, u193, u194, u195, u196, u197, u198, u199, u200, u201, u202, u203, u204, u205, u206, u207, u208, u209, u210, u211, u212, u213, u214, u215, u216, u217, u218, u219, u220, u221, u222, u223, u224, u225, u226, u227, u228, u229, u230, u231, u232, u233, u234, u235, u236, u237, u238, u239, u240, u241, u242, u243, u244, u245, u246, u247, u248, u249, u250, u251, u252, u253, u254, u255, u256, u257, u258, u259, u260, u261, u262, u263, u264, u265, u266, u267, u268, u269, u270, u271, u272, u273, u274, u275, u276, u277, u278, u279, u280, u281, u282, u283, u284, u285, u286, u287, u288, u289, u290, u291, u292, u293, u294, u295, u296, u297, u298, u299, u300, u301, u302, u303, u304, u305, u306, u307, u308, u309, u310, u311, u312, u313, u314, u315, u316, u317, u318, u319, u320, u321, u322, u323, u324, u325, u326, u327, u328, u329, u330, u331, u332], []⟩ W := by
  conv => arg 2; whnf
  have HKN := Lib.hid (fun (W : World) (hb : Below w.heap.size w W) => h.is.known hb)
  have HB := Lib.hid hb
  have HI := Lib.hid h.is.imgs
  have HFM := Lib.hid h.fm
  obtain ⟨N, hN1, hN2, hN3, hN4⟩ := hc.calm
  have HCA := Lib.hid (fun (W : World) (hb : Below w.heap.size w W) => h.is.calm0 (c := c) hc hN1 hb)
  have HEP := Lib.hid (fun (W : World) (hb : Below w.heap.size w W) => h.is.ep1 (c := c) hc ⟨hch.1, by omega⟩ hH hb)
  have hM : histF (im 0).cn mo (fun i => (im i).F) t 0 ≠ [] := (hist_some hc.t1).2 (by
    obtain ⟨g, hg⟩ := (hist_some hc.t1).1 hH
    exact ⟨g, hist_mono hch.2.1 hg⟩)
  have HEQ := Lib.hid (fun (W : World) (hb : Below w.heap.size w W) => h.is.ep1 (c := c) (ch := mo) hc ⟨by omega, hch.2.2⟩ hM hb)
  have hn1 : (N : Int) ≤ ch := by have := (calm_hist hc.dense hc.some hc.t1 (c := ch) hch.1).2 hH; omega
  have hn2 : (N : Int) ≤ mo := by omega
  have HMO := Lib.hid (fun (i k : Nat) (hi : i < t) => bnd_more (fun f => fOf f k) (hist_all hH i hi) (hist_more hch.2.1 hi))
  have HOW := Lib.hid (fun (ho : ownB im fm ch t = true) (i k : Nat) (hi : i < t) (hk : k < (im 0).cn) => hg.own_in ho hi hk)
  have HON := Lib.hid (fun (ho : ownB im fm ch t = true) (i : Nat) (hi : i < t) => show (fm i).n = (im 0).cn from by rw [(fieldB_iff.1 (ownB_up ho i hi).1).1]; exact hg.same i hi)
  have HSM := Lib.hid hg.same
  have hn40 := (good_len (hc.good 0 hc.t1)).2.2
  have ht4 := hg.t4
  have gtt : ((t : Int) != (t : Int)) = false := by simp
  generalize hres : mvPost w = RES; have HR := Lib.hid (fun (w' : World) (hb : Below w.heap.size w w') => show RES (.returned (.bool true)) w' from hres ▸ ⟨rfl, hb⟩); clear hres; have m1 : True := trivial
  clear h hg hch hb hc hH hM hN1 hN2 hN3 hN4
  have hnn : (((im 0).cn : Int) != ((im 0).cn : Int)) = false := by simp
  generalize hn0 : (im 0).cn = n at *
  generalize histF n ch (fun i => (im i).F) t = H at *
  generalize histF n mo (fun i => (im i).F) t = HM at *
  rw [hob] at HOW HON ⊢
  clear hob
  clear hn0
  have HON1 := Lib.hid (HON.out rfl)
  have HOW1 := Lib.hid (HOW.out rfl)
  clear HON HOW
  go_upto_region 21 with (first | (go_at_call 30; have _ := m1; clear m1; refine (HEP.out _ HB.out).mono ?_; rintro e w2 ⟨⟨eb, sb, rfl, hE⟩, hb2⟩; have HE1 := Lib.hid hE; clear hE; have HBx := Lib.hid (HB.out.trans ((hb2).mono HB.out.size)); clear HB; have HB := HBx; clear HBx; clear hb2) | (go_at_call 30; refine (HEQ.out _ HB.out).mono ?_; rintro e w3 ⟨⟨eq, sq, rfl, hE⟩, hb3⟩; have HE2 := Lib.hid hE; clear hE; have HEx := Lib.hid (HE1.out.step hb3); clear HE1; have HE1 := HEx; clear HEx; have HBx := Lib.hid (HB.out.trans ((hb3).mono HB.out.size)); clear HB; have HB := HBx; clear HBx; clear hb3) | (go_at_call 31; refine (HCA.out _ HB.out).mono ?_; rintro e w4 ⟨rfl, hb4⟩; have HEx := Lib.hid (HE1.out.step hb4); clear HE1; have HE1 := HEx; clear HEx; have HEx := Lib.hid (HE2.out.step hb4); clear HE2; have HE2 := HEx; clear HEx; have HBx := Lib.hid (HB.out.trans ((hb4).mono HB.out.size)); clear HB; have HB := HBx; clear HBx; clear hb4))
  rename World => W3
  have HBW := HB
  clear HB HCA HEP HEQ
  go_wp2
  go_loopw [17] (fun s17 wr => ∃ i : Nat, i ≤ t ∧ s17 = .int .i64 (i : Int) ∧ Hid (Below W3.heap.size W3 wr)) (fun s17 _ => t - (intOf s17).toNat)
  case atStart => exact ⟨0, Nat.zero_le _, rfl, Lib.hid (Below.refl _ _)⟩
  case round =>
    obtain ⟨i, hi, rfl, HX⟩ := hrel
    by_cases hlt : i < t
    · have hlt' : (i : Int) < (t : Int) := by omega
      obtain ⟨b0, bS⟩ := (HE1.out.step HX.out).2 i hlt
      obtain ⟨d0, dS⟩ := (HE2.out.step HX.out).2 i hlt
      have hbz := (HE1.out.step HX.out).1
      have hdz := (HE2.out.step HX.out).1
      have HBX := Lib.hid (HBW.out.trans (HX.out.mono HBW.out.size))
      obtain ⟨xb, xo, hxa, hxB, x0, x1, _, _⟩ := (HI.out.below HBX.out).get hlt
      subst hxa
      have hxr : xb < wr.heap.size := by have := HBX.out.size; omega
      rw [HSM.out i hlt] at x0
      clear bS dS
      go_upto_region 24 with (fail)
      (refine wp_region_calm (wr.heap.size) (by kernel_rfl) (by kernel_rfl) ?_; (repeat (first | go_big_quiet_step (fail) | quiet_step (fail))); refine wpQuiet_nil ?_; intro _ hw'; obtain ⟨xq, hw''⟩ := hw'; subst hw'')
      have HX2 := Lib.hid (HX.out.trans ((Calm.below xq).mono HX.out.size))
      generalize Calm.val xq = wq at *
      clear b0 d0 hbz hdz HBX x0 x1 hxr HX
      go_wp2
      go_loopw [18] (fun s18 wr => ∃ k : Nat, k ≤ n ∧ s18 = .int .i64 (k : Int) ∧ Hid (Below W3.heap.size W3 wr)) (fun s18 _ => n - (intOf s18).toNat)
      case atStart => exact ⟨0, Nat.zero_le _, rfl, HX2⟩
      case round =>
        clear HX2
        obtain ⟨k, hk, rfl, HY⟩ := hrel
        obtain ⟨b0, bS⟩ := (HE1.out.step HY.out).2 i hlt
        have hbz := (HE1.out.step HY.out).1
        by_cases hkn : k < n
        · have hkn' : (k : Int) < (n : Int) := by omega
          obtain ⟨d0, dS⟩ := (HE2.out.step HY.out).2 i hlt
          have hdz := (HE2.out.step HY.out).1
          obtain ⟨p0, p1⟩ := bS.cell hkn
          obtain ⟨q0, q1⟩ := dS.cell hkn
          have hpz := bS.lt
          have hqz := dS.lt
          have HBX := Lib.hid (HBW.out.trans (HY.out.mono HBW.out.size))
          obtain ⟨vb, vo, hva, hvB, v0, hvm, vI⟩ := (HFM.out.below HBX.out).get hlt
          subst hva
          have hvr : vb < wr.heap.size := by have := HBX.out.size; omega
          rw [HON1.out i hlt] at v0 vI
          obtain ⟨fb, fo, hfa, hfB, r0⟩ := vI.get hkn
          rw [hfa] at v0
          have hfr : fb < wr.heap.size := by have := HBX.out.size; omega
          have hmo := HMO.out i k hlt
          have how := HOW1.out i k hlt hkn
          generalize bnd (fun f => fOf f k) (H i) = b at *
          generalize bnd (fun f => fOf f k) (HM i) = d at *
          generalize (fm i).f k = fk at *
          have f1 : ¬ fk < b.lo := by omega
          have f2 : ¬ b.hi < fk := by omega
          have f3 : ¬ b.lo < d.lo := by omega
          have f4 : ¬ d.hi < b.hi := by omega
          clear bS dS hmo how vI hfa hvm HBX
          go_upto_region 29 with (fail)
          simp only [List.append_eq, List.cons_append, List.nil_append]
          (refine wp_region_calm (wr.heap.size) (by kernel_rfl) (by kernel_rfl) ?_; (repeat (first | go_big_quiet_step (fail) | quiet_step (fail))); refine wpQuiet_nil ?_; intro _ hw'; obtain ⟨xq, hw''⟩ := hw'; subst hw''); have HXx := Lib.hid (HY.out.trans ((Calm.below xq).mono HY.out.size)); generalize Calm.val xq = wq at *; clear HY; go_wp2; go_roundw; (case rel => exact ⟨k + 1, by omega, by go_num, HXx⟩); (case measure => (simp [intOf]; omega))
        · obtain rfl : k = n := by omega
          have hkn' : ¬ (k : Int) < (k : Int) := by omega
          clear bS
          go_wp2
          go_roundw
          case rel => exact ⟨i + 1, by omega, by go_num, HY⟩
          case measure => simp [intOf]; omega
    · obtain rfl : i = t := by omega
      have hlt' : ¬ (i : Int) < (i : Int) := by omega
      have HB := Lib.hid (HBW.out.trans (HX.out.mono HBW.out.size))
      clear HE1 HE2 HX HBW HI HFM
      go_wp2_with (first | (go_at_call 11; refine (HKN.out _ HB.out).mono ?_; rintro e w9 ⟨rfl, hb9⟩; have HBx := Lib.hid (HB.out.trans ((hb9).mono HB.out.size)); clear HB; have HB := HBx; clear HBx; clear hb9))
      exact HR.out _ HB.out
theorem mv_C3 (a : Option Addr) (t c : Nat) (im : Nat → IM) (xa : Option Addr) (xc : Nat) (fm : Nat → FM) (ch mo : Int) (w : World) (h : MvIn a t im xa fm w) (hg : MvG t im) (hc : EpC t im) (hch : 0 ≤ ch ∧ ch ≤ mo ∧ mo ≤ 1000) (hH : histF (im 0).cn ch (fun i => (im i).F) t 0 ≠ []) (W : World) (u4 u5 u6 u7 u8 u10 u11 u12 u13 u14 u15 u16 u17 u18 u19 u20 u21 u22 u23 u24 u25 u26 u27 u28 u29 u30 u31 u32 u33 u34 u35 u36 u37 u38 u39 u40 u41 u42 u43 u44 u45 u46 u47 u48 u49 u50 u51 u52 u53 u54 u55 u56 u57 u58 u59 u60 u61 u62 u63 u64 u65 u66 u67 u68 u69 u70 u71 u72 u73 u74 u75 u76 u77 u78 u79 u80 u81 u82 u83 u84 u85 u86 u87 u88 u89 u90 u91 u92 u93 u94 u95 u96 u97 u98 u99 u100 u101 u102 u103 u104 u105 u106 u107 u108 u109 u110 u111 u112 u113 u114 u115 u116 u117 u118 u119 u120 u121 u122 u123 u124 u125 u126 u127 u128 u129 u130 u131 u132 u133 u134 u135 u136 u137 u138 u139 u140 u141 u142 u143 u144 u145 u146 u147 u148 u149 u150 u151 u152 u153 u154 u155 u156 u157 u158 u159 u160 u161 u162 u163 u164 u165 u166 u167 u168 u169 u170 u171 u172 u173 u174 u175 u176 u177 u178 u179 u180 u181 u182 u183 u184 u185 u186 u187 u188 u189 u190 u191 u192 u193 u194 u195 u196 u197 u198 u199 u200 u201 u202 u203 u204 u205 u206 u207 u208 u209 u210 u211 u212 u213 u214 u215 u216 u217 u218 u219 u220 u221 u222 u223 u224 u225 u226 u227 u228 u229 u230 u231 u232 u233 u234 u235 u236 u237 u238 u239 u240 u241 u242 u243 u244 u245 u246 u247 u248 u249 u250 u251 u252 u253 u254 u255 u256 u257 u258 u259 u260 u261 u262 u263 u264 u265 u266 u267 u268 u269 u270 u271 u272 u273 u274 u275 u276 u277 u278 u279 u280 u281 u282 u283 u284 u285 u286 u287 u288 u289 u290 u291 u292 u293 u294 u295 u296 u297 u298 u299 u300 u301 u302 u303 u304 u305 u306 u307 u308 u309 u310 u311 u312 u313 u314 u315 u316 u317 u318 u319 u320 u321 u322 u323 u324 u325 u326 u327 u328 u329 u330 u331 u332 : Value) (hb : Below w.heap.size w W) :
    (mvFrom 4).wp Tryd.prog (bodyPost Tryd.prog Tryd.f7 (mvPost w)) ⟨#[.slice a t c, .slice xa t xc, .int .i64 ch, .int .i64 mo, u4, u5, u6, u7, u8, .bool (ownB im fm ch t), u10, u11, u12, u13, u14, u15, u16, u17, u18, u19, u20, u21, u22, u23, u24, u25, u26, u27, u28, u29, u30, u31, u32, u33, u34, u35, u36, u37, u38, u39, u40, u41, u42, u43, u44, u45, u46, u47, u48, u49, u50, u51, u52, u53, u54, u55, u56, u57, u58, u59, u60, u61, u62, u63, u64, u65, u66, u67, u68, u69, u70, u71, u72, u73, u74, u75, u76, u77, u78, u79, u80, u81, u82, u83, u84, u85, u86, u87, u88, u89, u90, u91, u92, u93, u94, u95, u96, u97, u98, u99, u100, u101, u102, u103, u104, u105, u106, u107, u108, u109, u110, u111, u112, u113, u114, u115, u116, u117, u118, u119, u120, u121, u122, u123, u124, u125, u126, u127, u128, u129, u130, u131, u132, u133, u134, u135, u136, u137, u138, u139, u140, u141, u142, u143, u144, u145, u146, u147, u148, u149, u150, u151, u152, u153, u154, u155, u156, u157, u158, u159, u160, u161, u162, u163, u164, u165, u166, u167, u168, u169, u170, u171, u172, u173, u174, u175, u176, u177, u178, u179, u180, u181, u182, u183, u184, u185, u186, u187, u188, u189, u190, u191, u192, u193, u194, u195, u196, u197, u198, u199, u200, u201, u202, u203, u204, u205, u206, u207, u208, u209, u210, u211, u212, u213, u214, u215, u216, u217, u218, u219, u220, u221, u222, u223, u224, u225, u226, u227, u228, u229, u230, u231, u232, u233, u234, u235, u236, u237, u238, u239, u240, u241, u242, u243, u244, u245, u246, u247, u248, u249, u250, u251, u252, u253, u254, u255, u256, u257, u258, u259, u260, u261, u262, u263, u264, u265, u266, u267, u268, u269, u270, u271, u272, u273, u274, u275, u276, u277, u278, u279, u280, u281, u282, u283, u284, u285, u286, u287, u288, u289, u290, u291, u292, u293, u294, u295, u296, u297, u298, u299, u300, u301, u302, u303, u304, u305, u306, u307, u308, u309, u310, u311, u312, u313, u314, u315, u316, u317, u318, u319, u320, u321, u322, u323, u324, u325, u326, u327, u328, u329, u330, u331, u332], []⟩ W := by
  cases hob : ownB im fm ch t
  · rw [← hob]
    exact mv_C3f a t c im xa xc fm ch mo w h hg hc hch hH hob W _ _ _ _ _ _ _ _ _ _ _ _ _ _ _ _ _ _ _ _ _ _ _ _ _ _ _ _ _ _ _ _ _ _ _ _ _ _ _ _ _ _ _ _ _ _ _ _ _ _ _ _ _ _ _ _ _ _ _ _ _ _ _ _ _ _ _ _ _ _ _ _ _ _ _ _ _ _ _ _ _ _ _ _ _ _ _ _ _ _ _ _ _ _ _ _ _ _ _ _ _ _ _ _ _ _ _ _ _ _ _ _ _ _ _ _ _ _ _ _ _ _ _ _ _ _ _ _ _ _ _ _ _ _ _ _ _ _ _ _ _ _ _ _ _ _ _ _ _ _ _ _ _ _ _ _ _ _ _ _ _ _ _ _ _ _ _ _ _ _ _ _ _ _ _ _ _ _ _ _ _ _ _ _ _ _ _ _ _ _ _ _ _ _ _ _ _ _ _ _ _ _ _ _ _ _ _ _ _ _ _ _ _ _ _ _ _ _ _ _ _ _ _ _ _ _ _ _ _ _ _ _ _ _ _ _ _ _ _ _ _ _ _ _ _ _ _ _ _ _ _ _ _ _ _ _ _ _ _ _ _ _ _ _ _ _ _ _ _ _ _ _ _ _ _ _ _ _ _ _ _ _ _ _ _ _ _ _ _ _ _ _ _ _ _ _ _ _ _ _ _ _ _ _ _ _ _ _ _ _ _ _ _ _ _ _ _ _ _ _ _ _ _ _ _ _ _ _ hb
  · rw [← hob]
    exact mv_C3t a t c im xa xc fm ch mo w h hg hc hch hH hob W _ _ _ _ _ _ _ _ _ _ _ _ _ _ _ _ _ _ _ _ _ _ _ _ _ _ _ _ _ _ _ _ _ _ _ _ _ _ _ _ _ _ _ _ _ _ _ _ _ _ _ _ _ _ _ _ _ _ _ _ _ _ _ _ _ _ _ _ _ _ _ _ _ _ _ _ _ _ _ _ _ _ _ _ _ _ _ _ _ _ _ _ _ _ _ _ _ _ _ _ _ _ _ _ _ _ _ _ _ _ _ _ _ _ _ _ _ _ _ _ _ _ _ _ _ _ _ _ _ _ _ _ _ _ _ _ _ _ _ _ _ _ _ _ _ _ _ _ _ _ _ _ _ _ _ _ _ _ _ _ _ _ _ _ _ _ _ _ _ _ _ _ _ _ _ _ _ _ _ _ _ _ _ _ _ _ _ _ _ _ _ _ _ _ _ _ _ _ _ _ _ _ _ _ _ _ _ _ _ _ _ _ _ _ _ _ _ _ _ _ _ _ _ _ _ _ _ _ _ _ _ _ _ _ _ _ _ _ _ _ _ _ _ _ _ _ _ _ _ _ _ _ _ _ _ _ _ _ _ _ _ _ _ _ _ _ _ _ _ _ _ _ _ _ _ _ _ _ _ _ _ _ _ _ _ _ _ _ _ _ _ _ _ _ _ _ _ _ _ _ _ _ _ _ _ _ _ _ _ _ _ _ _ _ _ _ _ _ _ _ _ _ _ _ _ _ _ _ hb
end Go.Proofs.YtlfegmjdheddjaaDoor
