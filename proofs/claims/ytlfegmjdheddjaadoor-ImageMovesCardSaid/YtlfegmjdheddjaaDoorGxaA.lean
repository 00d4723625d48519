/- Texts put together: LawEpB, LawEpC. -/
import Derived.Test.YtlfegmjdheddjaaDoorGxhA
import Derived.Test.YtlfegmjdheddjaaDoorGcA
namespace Go.Proofs.YtlfegmjdheddjaaDoor
open Go.RowKit
set_option linter.unusedVariables false
set_option linter.unusedSimpArgs false
set_option maxRecDepth 100000 in
set_option maxHeartbeats 4000000 in
theorem ep_A (a : Option Addr) (t c : Nat) (im : Nat → IM) (ch : Int) (w : World) (h : IsIn a t im w) (h9 : t ≤ 9) (hA : 6 < t ∨ shB t im t = false ∨ lgB im t = true) (W : World) (u2 u3 u4 u8 u9 u10 u11 u12 u13 u14 u15 u16 u17 u18 u19 u20 u21 u22 u23 u24 u25 u26 u27 u28 u29 u30 u31 u32 u33 u34 u35 u36 u37 u38 u39 u40 u41 u42 u43 u44 u45 u46 u47 u48 u49 u50 u51 u52 u53 u54 u55 u56 u57 u58 u59 u60 u61 u62 u63 u64 u65 u66 u67 u68 u69 u70 u71 u72 u73 u74 u75 u76 u77 u78 u79 u80 u81 u82 u83 u84 u85 u86 u87 u88 u89 u90 u91 u92 u93 u94 u95 u96 u97 u98 u99 u100 u101 u102 u103 u104 u105 u106 u107 u108 u109 u110 u111 u112 u113 u114 u115 u116 u117 u118 u119 u120 u121 u122 u123 u124 u125 u126 u127 u128 u129 u130 u131 u132 u133 u134 u135 u136 u137 u138 u139 u140 u141 u142 u143 u144 u145 u146 u147 u148 u149 u150 u151 u152 u153 u154 u155 u156 u157 u158 u159 u160 u161 u162 u163 u164 u165 u166 u167 u168 u169 u170 u171 u172 u173 u174 u175 u176 u177 u178 u179 u180 u181 u182 u183 u184 u185 u186 u187 u188 u189 u190 u191 u192 u193 u194 u195 u196 u197 u198 u199 u200 u201 u202 u203 u204 u205 u206 u207 u208 u209 u210 u211 u212 u213 u214 u215 u216 u217 u218 u219 u220 u221 u222 u223 u224 u225 u226 u227 u228 u229 : Value) (hb : Below w.heap.size w W) :
    (epFrom 5).wp Tryd.prog (bodyPost Tryd.prog Tryd.f6 (epPost w)) ⟨#[.slice a t c, .int .i64 ch, u2, u3, u4, .bool (epV t ch), .bool (lgB im t), .bool (shB t im t), u8, u9, u10, u11, u12, u13, u14, u15, u16, u17, u18, u19, u20, u21, u22, u23, u24, u25, u26, u27, u28, u29, u30, u31, u32, u33, u34, u35, u36, u37, u38, u39, u40, u41, u42, u43, u44, u45, u46, u47, u48, u49, u50, u51, u52, u53, u54, u55, u56, u57, u58, u59, u60, u61, u62, u63, u64, u65, u66, u67, u68, u69, u70, u71, u72, u73, u74, u75, u76, u77, u78, u79, u80, u81, u82, u83, u84, u85, u86, u87, u88, u89, u90, u91, u92, u93, u94, u95, u96, u97, u98, u99, u100, u101, u102, u103, u104, u105, u106, u107, u108, u109, u110, u111, u112, u113, u114, u115, u116, u117, u118, u119, u120, u121, u122, u123, u124, u125, u126, u127, u128, u129, u130, u131, u132, u133, u134, u135, u136, u137, u138, u139, u140, u141, u142, u143, u144, u145, u146, u147, u148, u149, u150, u151, u152, u153, u154, u155, u156, u157, u158, u159, u160, u161, u162, u163, u164, u165, u166, u167, u168, u169, u170, u171, u172, u173, u174, u175, u176, u177, u178, u179, u180, u181, u182, u183, u184, u185, u186, u187, u188, u189, u190, u191, u192, u193, u194, u195, u196, u197, u198, u199, u200, u201, u202, u203, u204, u205, u206, u207, u208, u209, u210, u211, u212, u213, u214, u215, u216, u217, u218, u219, u220, u221, u222, u223, u224, u225, u226, u227, u228, u229], []⟩ W := by
  conv => arg 2; whnf
  have HKN := Lib.hid (fun (W : World) (hb : Below w.heap.size w W) => h.known hb)
  have HB := Lib.hid hb
  generalize hres : epPost w = RES; have HR := Lib.hid (fun (w' : World) (hb : Below w.heap.size w w') => show RES (.returned (.bool true)) w' from hres ▸ ⟨rfl, hb⟩); clear hres
  by_cases h6 : 6 < t
  · have HEP := Lib.hid (fun (W : World) (hb : Below w.heap.size w W) => h.epE (c := c) (ch := ch) (ep_many h6 _) (by decide) hb)
    have HCA := Lib.hid (fun (W : World) (hb : Below w.heap.size w W) => h.calmE (c := c) (ep_many h6 _) (by decide) hb)
    have h6' : (6 : Int) < (t : Int) := by omega
    have h6b : ¬ (t : Int) ≤ 6 := by omega
    clear h hb hA h9 h6
    generalize lgB im t = LG
    generalize shB t im t = SH
    generalize epV t ch = EV
    go_wp2_with (first | (go_at_call 30; refine (HEP.out _ HB.out).mono ?_; rintro e w2 ⟨rfl, hb2⟩; have HBx := Lib.hid (HB.out.trans ((hb2).mono HB.out.size)); clear HB; have HB := HBx; clear HBx; clear hb2) | (go_at_call 31; refine (HCA.out _ HB.out).mono ?_; rintro e w3 ⟨rfl, hb3⟩; have HBx := Lib.hid (HB.out.trans ((hb3).mono HB.out.size)); clear HB; have HB := HBx; clear HBx; clear hb3))
    go_loopw [13, 14] (fun s13 s14 wr => s13 = .int .i64 3 ∧ s14 = .int .i64 0 ∧ Hid (Below w.heap.size w wr)) (fun _ _ _ => 0); (case atStart => exact ⟨rfl, rfl, HB⟩); (case round => (clear HB; obtain ⟨rfl, rfl, HB⟩ := hrel; have hlt' : (0 : Int) < (t : Int) := (by omega); go_wp2_with (first | (go_at_call 11; refine (HKN.out _ HB.out).mono ?_; rintro e w9 ⟨rfl, hb9⟩; have HBx := Lib.hid (HB.out.trans ((hb9).mono HB.out.size)); clear HB; have HB := HBx; clear HBx; clear hb9)); exact HR.out _ HB.out))
  · have h6' : ¬ (6 : Int) < (t : Int) := by omega
    have h6b : (t : Int) ≤ 6 := by omega
    cases hs : shB t im t
    · have HEP := Lib.hid (fun (W : World) (hb : Below w.heap.size w W) => h.epE (c := c) (ch := ch) (ep_bad h6 hs _) (by decide) hb)
      have HCA := Lib.hid (fun (W : World) (hb : Below w.heap.size w W) => h.calmE (c := c) (ep_bad h6 hs _) (by decide) hb)
      clear h hb hA h9 h6 hs
      generalize lgB im t = LG
      generalize epV t ch = EV
      go_wp2_with (first | (go_at_call 30; refine (HEP.out _ HB.out).mono ?_; rintro e w2 ⟨rfl, hb2⟩; have HBx := Lib.hid (HB.out.trans ((hb2).mono HB.out.size)); clear HB; have HB := HBx; clear HBx; clear hb2) | (go_at_call 31; refine (HCA.out _ HB.out).mono ?_; rintro e w3 ⟨rfl, hb3⟩; have HBx := Lib.hid (HB.out.trans ((hb3).mono HB.out.size)); clear HB; have HB := HBx; clear HBx; clear hb3))
      go_loopw [13, 14] (fun s13 s14 wr => s13 = .int .i64 2 ∧ s14 = .int .i64 0 ∧ Hid (Below w.heap.size w wr)) (fun _ _ _ => 0); (case atStart => exact ⟨rfl, rfl, HB⟩); (case round => (clear HB; obtain ⟨rfl, rfl, HB⟩ := hrel; by_cases hlt : 0 < t; (have hlt' : (0 : Int) < (t : Int) := (by omega); go_wp2_with (first | (go_at_call 11; refine (HKN.out _ HB.out).mono ?_; rintro e w9 ⟨rfl, hb9⟩; have HBx := Lib.hid (HB.out.trans ((hb9).mono HB.out.size)); clear HB; have HB := HBx; clear HBx; clear hb9)); exact HR.out _ HB.out); (have hlt' : ¬ (0 : Int) < (t : Int) := (by omega); go_wp2_with (first | (go_at_call 11; refine (HKN.out _ HB.out).mono ?_; rintro e w9 ⟨rfl, hb9⟩; have HBx := Lib.hid (HB.out.trans ((hb9).mono HB.out.size)); clear HB; have HB := HBx; clear HBx; clear hb9)); exact HR.out _ HB.out)))
    · have hl : lgB im t = true := by
        rcases hA with e | e | e
        · exact absurd e h6
        · rw [hs] at e; cases e
        · exact e
      have HCA := Lib.hid (fun (W : World) (hb : Below w.heap.size w W) => h.calmE (c := c) (ep_long h6 hs hl) (by decide) hb)
      have hv : epV t ch = inB ch 0 1000 := by unfold epV; rw [decide_eq_true (shB_iff.1 hs).1, Bool.true_and]
      rw [hl, hv]
      cases hf : inB ch 0 1000
      · have HEP := Lib.hid (fun (W : World) (hb : Below w.heap.size w W) => h.epE (c := c) (ch := ch) (E := 2) (by rw [hf]; exact ep_fine h6) (by decide) hb)
        clear h hb hA h9 h6 hs hl hv hf
        go_wp2_with (first | (go_at_call 30; refine (HEP.out _ HB.out).mono ?_; rintro e w2 ⟨rfl, hb2⟩; have HBx := Lib.hid (HB.out.trans ((hb2).mono HB.out.size)); clear HB; have HB := HBx; clear HBx; clear hb2) | (go_at_call 31; refine (HCA.out _ HB.out).mono ?_; rintro e w3 ⟨rfl, hb3⟩; have HBx := Lib.hid (HB.out.trans ((hb3).mono HB.out.size)); clear HB; have HB := HBx; clear HBx; clear hb3))
        go_loopw [13, 14] (fun s13 s14 wr => s13 = .int .i64 3 ∧ s14 = .int .i64 0 ∧ Hid (Below w.heap.size w wr)) (fun _ _ _ => 0); (case atStart => exact ⟨rfl, rfl, HB⟩); (case round => (clear HB; obtain ⟨rfl, rfl, HB⟩ := hrel; by_cases hlt : 0 < t; (have hlt' : (0 : Int) < (t : Int) := (by omega); go_wp2_with (first | (go_at_call 11; refine (HKN.out _ HB.out).mono ?_; rintro e w9 ⟨rfl, hb9⟩; have HBx := Lib.hid (HB.out.trans ((hb9).mono HB.out.size)); clear HB; have HB := HBx; clear HBx; clear hb9)); exact HR.out _ HB.out); (have hlt' : ¬ (0 : Int) < (t : Int) := (by omega); go_wp2_with (first | (go_at_call 11; refine (HKN.out _ HB.out).mono ?_; rintro e w9 ⟨rfl, hb9⟩; have HBx := Lib.hid (HB.out.trans ((hb9).mono HB.out.size)); clear HB; have HB := HBx; clear HBx; clear hb9)); exact HR.out _ HB.out)))
      · have HEP := Lib.hid (fun (W : World) (hb : Below w.heap.size w W) => h.epE (c := c) (ch := ch) (E := 3) (by rw [hf]; exact ep_long h6 hs hl) (by decide) hb)
        clear h hb hA h9 h6 hs hl hv hf
        go_wp2_with (first | (go_at_call 30; refine (HEP.out _ HB.out).mono ?_; rintro e w2 ⟨rfl, hb2⟩; have HBx := Lib.hid (HB.out.trans ((hb2).mono HB.out.size)); clear HB; have HB := HBx; clear HBx; clear hb2) | (go_at_call 31; refine (HCA.out _ HB.out).mono ?_; rintro e w3 ⟨rfl, hb3⟩; have HBx := Lib.hid (HB.out.trans ((hb3).mono HB.out.size)); clear HB; have HB := HBx; clear HBx; clear hb3))
        go_loopw [13, 14] (fun s13 s14 wr => s13 = .int .i64 3 ∧ s14 = .int .i64 0 ∧ Hid (Below w.heap.size w wr)) (fun _ _ _ => 0); (case atStart => exact ⟨rfl, rfl, HB⟩); (case round => (clear HB; obtain ⟨rfl, rfl, HB⟩ := hrel; by_cases hlt : 0 < t; (have hlt' : (0 : Int) < (t : Int) := (by omega); go_wp2_with (first | (go_at_call 11; refine (HKN.out _ HB.out).mono ?_; rintro e w9 ⟨rfl, hb9⟩; have HBx := Lib.hid (HB.out.trans ((hb9).mono HB.out.size)); clear HB; have HB := HBx; clear HBx; clear hb9)); exact HR.out _ HB.out); (have hlt' : ¬ (0 : Int) < (t : Int) := (by omega); go_wp2_with (first | (go_at_call 11; refine (HKN.out _ HB.out).mono ?_; rintro e w9 ⟨rfl, hb9⟩; have HBx := Lib.hid (HB.out.trans ((hb9).mono HB.out.size)); clear HB; have HB := HBx; clear HBx; clear hb9)); exact HR.out _ HB.out)))
set_option maxRecDepth 100000 in
set_option maxHeartbeats 4000000 in
theorem ep_B (a : Option Addr) (t c : Nat) (im : Nat → IM) (ch : Int) (w : World) (h : IsIn a t im w) (h6 : ¬ 6 < t) (hs : shB t im t = true) (hl : lgB im t = false) (hB : allUpto t (fun i => !(im i).F.isEmpty) = false) (W : World) (u2 u3 u4 u8 u9 u10 u11 u12 u13 u14 u15 u16 u17 u18 u19 u20 u21 u22 u23 u24 u25 u26 u27 u28 u29 u30 u31 u32 u33 u34 u35 u36 u37 u38 u39 u40 u41 u42 u43 u44 u45 u46 u47 u48 u49 u50 u51 u52 u53 u54 u55 u56 u57 u58 u59 u60 u61 u62 u63 u64 u65 u66 u67 u68 u69 u70 u71 u72 u73 u74 u75 u76 u77 u78 u79 u80 u81 u82 u83 u84 u85 u86 u87 u88 u89 u90 u91 u92 u93 u94 u95 u96 u97 u98 u99 u100 u101 u102 u103 u104 u105 u106 u107 u108 u109 u110 u111 u112 u113 u114 u115 u116 u117 u118 u119 u120 u121 u122 u123 u124 u125 u126 u127 u128 u129 u130 u131 u132 u133 u134 u135 u136 u137 u138 u139 u140 u141 u142 u143 u144 u145 u146 u147 u148 u149 u150 u151 u152 u153 u154 u155 u156 u157 u158 u159 u160 u161 u162 u163 u164 u165 u166 u167 u168 u169 u170 u171 u172 u173 u174 u175 u176 u177 u178 u179 u180 u181 u182 u183 u184 u185 u186 u187 u188 u189 u190 u191 u192 u193 u194 u195 u196 u197 u198 u199 u200 u201 u202 u203 u204 u205 u206 u207 u208 u209 u210 u211 u212 u213 u214 u215 u216 u217 u218 u219 u220 u221 u222 u223 u224 u225 u226 u227 u228 u229 : Value) (hb : Below w.heap.size w W) :
    (epFrom 5).wp Tryd.prog (bodyPost Tryd.prog Tryd.f6 (epPost w)) ⟨#[.slice a t c, .int .i64 ch, u2, u3, u4, .bool (epV t ch), .bool (lgB im t), .bool (shB t im t), u8, u9, u10, u11, u12, u13, u14, u15, u16, u17, u18, u19, u20, u21, u22, u23, u24, u25, u26, u27, u28, u29, u30, u31, u32, u33, u34, u35, u36, u37, u38, u39, u40, u41, u42, u43, u44, u45, u46, u47, u48, u49, u50, u51, u52, u53, u54, u55, u56, u57, u58, u59, u60, u61, u62, u63, u64, u65, u66, u67, u68, u69, u70, u71, u72, u73, u74, u75, u76, u77, u78, u79, u80, u81, u82, u83, u84, u85, u86, u87, u88, u89, u90, u91, u92, u93, u94, u95, u96, u97, u98, u99, u100, u101, u102, u103, u104, u105, u106, u107, u108, u109, u110, u111, u112, u113, u114, u115, u116, u117, u118, u119, u120, u121, u122, u123, u124, u125, u126, u127, u128, u129, u130, u131, u132, u133, u134, u135, u136, u137, u138, u139, u140, u141, u142, u143, u144, u145, u146, u147, u148, u149, u150, u151, u152, u153, u154, u155, u156, u157, u158, u159, u160, u161, u162, u163, u164, u165, u166, u167, u168, u169, u170, u171, u172, u173, u174, u175, u176, u177, u178, u179, u180, u181, u182, u183, u184, u185, u186, u187, u188, u189, u190, u191, u192, u193, u194, u195, u196, u197, u198, u199, u200, u201, u202, u203, u204, u205, u206, u207, u208, u209, u210, u211, u212, u213, u214, u215, u216, u217, u218, u219, u220, u221, u222, u223, u224, u225, u226, u227, u228, u229], []⟩ W := by
  conv => arg 2; whnf
  have HKN := Lib.hid (fun (W : World) (hb : Below w.heap.size w W) => h.known hb)
  have HB := Lib.hid hb
  have HI := Lib.hid h.imgs
  generalize hres : epPost w = RES; have HR := Lib.hid (fun (w' : World) (hb : Below w.heap.size w w') => show RES (.returned (.bool true)) w' from hres ▸ ⟨rfl, hb⟩); clear hres
  have hE : movE t im true = 5 := by rw [ep_end h6 hs hl, if_pos hB]
  have HCA := Lib.hid (fun (W : World) (hb : Below w.heap.size w W) => h.calmE (c := c) hE (by decide) hb)
  have HAL := Lib.hid (fun (i : Nat) (hi : i < t) (W : World) (hb : Below w.heap.size w W) => h.allC hi (ep_good hs hl i hi) hb)
  have hv : epV t ch = inB ch 0 1000 := by unfold epV; rw [decide_eq_true (shB_iff.1 hs).1, Bool.true_and]
  obtain ⟨E2, hE2⟩ : ∃ E2 : Int, E2 = if inB ch 0 1000 = true then 5 else 2 := ⟨_, rfl⟩
  have HE2 := Lib.hid hE2
  have HEP0 := Lib.hid (fun (W : World) (hb : Below w.heap.size w W) => h.epE (c := c) (ch := ch) (E := E2) (by
    rw [hE2]
    cases hf : inB ch 0 1000
    · exact ep_fine h6
    · exact hE) (by rw [hE2]; split <;> decide) hb)
  obtain ⟨q, hqt, hq0, hq1⟩ : ∃ q, q < t ∧ (im q).F.length = 0 ∧ ∀ j, j < q → (im j).F.length ≠ 0 := by
    obtain ⟨j, hj, h1⟩ := allUpto_iff' hB
    obtain ⟨q, h2, h3, h4⟩ := least_of (P := fun q => (im q).F.length = 0) j (by show (im j).F.length = 0; cases e : (im j).F; rfl; rw [e] at h1; cases h1)
    exact ⟨q, by omega, h3, h4⟩
  have HQ0 := Lib.hid hq0
  have HQ1 := Lib.hid hq1
  have h6' : ¬ (6 : Int) < (t : Int) := by omega
  have h6b : (t : Int) ≤ 6 := by omega
  rw [hs, hl, hv]
  have HEP := HEP0
  clear h hb hs hl hv hB hE HEP0 hq0 hq1 hE2
  go_upto_region 14 with (first | (go_at_call 30; refine (HEP.out _ HB.out).mono ?_; rintro e w2 ⟨rfl, hb2⟩; have HBx := Lib.hid (HB.out.trans ((hb2).mono HB.out.size)); clear HB; have HB := HBx; clear HBx; clear hb2) | (go_at_call 31; refine (HCA.out _ HB.out).mono ?_; rintro e w3 ⟨rfl, hb3⟩; have HBx := Lib.hid (HB.out.trans ((hb3).mono HB.out.size)); clear HB; have HB := HBx; clear HBx; clear hb3))
  have HB0 := HB
  clear HEP HCA
  go_wp2
  go_loopw [13, 14] (fun s13 s14 wr => ∃ i : Nat, i ≤ t ∧ s14 = .int .i64 (i : Int) ∧ ((i ≤ q ∧ s13 = .int .i64 0) ∨ (i = q + 1 ∧ s13 = .int .i64 5)) ∧ Hid (Below w.heap.size w wr)) (fun _ s14 _ => t - (intOf s14).toNat)
  case atStart => exact ⟨0, Nat.zero_le _, rfl, .inl ⟨Nat.zero_le _, rfl⟩, HB0⟩
  case round =>
    clear HB HB0
    obtain ⟨i, hi, rfl, hcase, HB⟩ := hrel
    rcases hcase with ⟨hiq, rfl⟩ | ⟨hiq, rfl⟩
    · have hlt : i < t := by omega
      have hlt' : (i : Int) < (t : Int) := by omega
      obtain ⟨xb, xo, hxa, hxB, x0, x1, _, _⟩ := (HI.out.below HB.out).get hlt
      subst hxa
      have hxr : xb < wr.heap.size := by have := HB.out.size; omega
      by_cases e : i = q
      · have hz := HQ0.out
        rw [← e] at hz
        have HZ := Lib.hid hz
        have HIQ := Lib.hid e
        clear hz e hiq
        go_wp2_with (go_at_call 14; refine (HAL.out i hlt _ HB.out).mono ?_; rintro e w4 ⟨⟨la, lc, rfl⟩, hb4⟩; rw [HZ.out])
        go_roundw
        case rel => exact ⟨i + 1, by omega, by go_num, .inr ⟨by have := HIQ.out; omega, rfl⟩, Lib.hid (HB.out.trans (hb4.mono HB.out.size))⟩
        case measure => simp [intOf]; omega
      · have hz := HQ1.out i (by omega)
        generalize hlen : (im i).F.length = len at hz
        have HLEN := Lib.hid hlen
        have hlz : ((len : Int) == 0) = false := by rw [beq_eq_false_iff_ne]; omega
        have hiq2 : i + 1 ≤ q := by omega
        clear hlen hz e hiq
        go_wp2_with (go_at_call 14; refine (HAL.out i hlt _ HB.out).mono ?_; rintro e w4 ⟨⟨la, lc, rfl⟩, hb4⟩; rw [HLEN.out])
        go_roundw
        case rel => exact ⟨i + 1, by omega, by go_num, .inl ⟨hiq2, rfl⟩, Lib.hid (HB.out.trans (hb4.mono HB.out.size))⟩
        case measure => simp [intOf]; omega
    · clear HAL HI HQ0 HQ1
      have he2 := HE2.out
      cases hf : inB ch 0 1000
      · rw [hf, if_neg (by decide)] at he2
        subst he2
        clear HE2
        by_cases hlt : i < t
        · have hlt' : (i : Int) < (t : Int) := by omega
          clear hf
          go_wp2_with (first | (go_at_call 11; refine (HKN.out _ HB.out).mono ?_; rintro e w9 ⟨rfl, hb9⟩; have HBx := Lib.hid (HB.out.trans ((hb9).mono HB.out.size)); clear HB; have HB := HBx; clear HBx; clear hb9))
          exact HR.out _ HB.out
        · have hlt' : ¬ (i : Int) < (t : Int) := by omega
          clear hf
          go_wp2_with (first | (go_at_call 11; refine (HKN.out _ HB.out).mono ?_; rintro e w9 ⟨rfl, hb9⟩; have HBx := Lib.hid (HB.out.trans ((hb9).mono HB.out.size)); clear HB; have HB := HBx; clear HBx; clear hb9))
          exact HR.out _ HB.out
      · rw [hf, if_pos rfl] at he2
        subst he2
        clear HE2
        by_cases hlt : i < t
        · have hlt' : (i : Int) < (t : Int) := by omega
          clear hf
          go_wp2_with (first | (go_at_call 11; refine (HKN.out _ HB.out).mono ?_; rintro e w9 ⟨rfl, hb9⟩; have HBx := Lib.hid (HB.out.trans ((hb9).mono HB.out.size)); clear HB; have HB := HBx; clear HBx; clear hb9))
          exact HR.out _ HB.out
        · have hlt' : ¬ (i : Int) < (t : Int) := by omega
          clear hf
          go_wp2_with (first | (go_at_call 11; refine (HKN.out _ HB.out).mono ?_; rintro e w9 ⟨rfl, hb9⟩; have HBx := Lib.hid (HB.out.trans ((hb9).mono HB.out.size)); clear HB; have HB := HBx; clear HBx; clear hb9))
          exact HR.out _ HB.out
end Go.Proofs.YtlfegmjdheddjaaDoor
namespace Go.Proofs.YtlfegmjdheddjaaDoor
open Go.RowKit
set_option linter.unusedVariables false
set_option linter.unusedSimpArgs false
/-- the bounds of all epochs, as they lie in memory -/
def EbAt (W : World) (eb t n : Nat) (sbs : Nat → Nat) (H : Nat → List (List Int)) : Prop := eb < W.heap.size ∧ ∀ i, i < t → W.cell? ⟨eb, i, none⟩ = some (.slice (some ⟨sbs i, 0, none⟩) n n) ∧ SR 48 W (sbs i) n (fun c => bnd (fun f => fOf f c) (H i))
theorem EbAt.step {W W' : World} {eb t n : Nat} {sbs : Nat → Nat} {H : Nat → List (List Int)} (h : EbAt W eb t n sbs H) (hb : Below W.heap.size W W') : EbAt W' eb t n sbs H :=
  ⟨Nat.lt_of_lt_of_le h.1 hb.size, fun i hi => ⟨((bcell hb).1 _ _ h.1).trans (h.2 i hi).1, (h.2 i hi).2.step hb⟩⟩
section
variable {a : Option Addr} {t c : Nat} {im : Nat → IM} {ch : Int} {w W : World}
/-- what holds where all images have fields -/
structure EpC (t : Nat) (im : Nat → IM) : Prop where
  t1 : 1 ≤ t
  t6 : t ≤ 6
  good : ∀ i, i < t → GoodI (im 0).cn (im i)
  some : ∀ i, i < t → (im i).F ≠ []
theorem EpC.mov (h : EpC t im) : MovOk t (im 0).cn im := ⟨h.t1, h.t6, fun i hi => shapeB_iff.2 (ShapedI.shape (h.good i hi).1).1, fun i hi => (ShapedI.shape (h.good i hi).1).2, fun i hi => (h.good i hi).2, h.some⟩
theorem EpC.dense (h : EpC t im) : Dense (im 0).cn (fun i => (im i).F) t := fun i hi f hf c hc => (good_len (h.good i hi)).2.1 f hf c hc
theorem EpC.calm (h : EpC t im) : ∃ N : Nat, calmF (im 0).cn (fun i => (im i).F) t = (N : Int) ∧ N ≤ 1000 ∧ histF (im 0).cn (N : Int) (fun i => (im i).F) t 0 ≠ [] ∧ ∀ j : Nat, j < N → histF (im 0).cn (j : Int) (fun i => (im i).F) t 0 = [] := calm_nat h.dense h.some h.t1
theorem IsIn.calm0 (h : IsIn a t im w) (hc : EpC t im) {N : Nat} (hN : calmF (im 0).cn (fun i => (im i).F) t = (N : Int)) (hb : Below w.heap.size w W) : Calls Tryd.prog 31 #[.slice a t c] W fun e w' => e = .returned (.tuple #[.int .i64 (N : Int), .int .i64 0]) ∧ Below W.heap.size W w' := by
  rw [← hN]
  exact Calm_ok a t c im (im 0).cn W w.heap.size hb.size (h.imgs.below hb) hc.mov
theorem IsIn.rcalm (h : IsIn a t im w) (hc : EpC t im) {N : Nat} (hN : N ≤ 1000) (h1 : histF (im 0).cn (N : Int) (fun i => (im i).F) t 0 ≠ []) (h2 : ∀ j : Nat, j < N → histF (im 0).cn (j : Int) (fun i => (im i).F) t 0 = []) (hb : Below w.heap.size w W) : Calls Tryd.prog 32 #[.slice a t c] W fun e w' => e = .returned (.int .i64 (N : Int)) ∧ Below W.heap.size W w' :=
  r8Calm_any a t c im (im 0).cn N W w.heap.size hb.size (h.imgs.below hb) hc.t1 hc.t6 hc.good hN h1 h2
theorem IsIn.history (h : IsIn a t im w) (hc : EpC t im) (hb : Below w.heap.size w W) : Calls Tryd.prog 33 #[.slice a t c, .int .i64 ch] W fun e w' => (∃ oa oc, e = .returned (.slice oa t oc) ∧ Lists3 w'.heap.size w' oa t (im 0).cn (histF (im 0).cn ch (fun i => (im i).F) t)) ∧ Below W.heap.size W w' :=
  r8History_any a t c im (im 0).cn ch W w.heap.size hb.size (h.imgs.below hb) hc.t1 hc.t6 hc.good
theorem IsIn.ep0 (h : IsIn a t im w) (hc : EpC t im) (hch : 0 ≤ ch ∧ ch ≤ 1000) (hH : histF (im 0).cn ch (fun i => (im i).F) t 0 = []) (hb : Below w.heap.size w W) : Calls Tryd.prog 30 #[.slice a t c, .int .i64 ch] W fun e w' => e = .returned (.tuple #[.slice none 0 0, .int .i64 5]) ∧ Below W.heap.size W w' :=
  (Epochs_ok a t c im (im 0).cn ch W w.heap.size hb.size (h.imgs.below hb) hc.mov hch).mono fun e w' h => by
    obtain ⟨h1, ⟨h2, _⟩ | ⟨_, h2⟩⟩ := h
    · exact absurd hH (h2 0 hc.t1)
    · exact ⟨h2, h1⟩
theorem IsIn.ep1 (h : IsIn a t im w) (hc : EpC t im) (hch : 0 ≤ ch ∧ ch ≤ 1000) (hH : histF (im 0).cn ch (fun i => (im i).F) t 0 ≠ []) (hb : Below w.heap.size w W) : Calls Tryd.prog 30 #[.slice a t c, .int .i64 ch] W fun e w' => (∃ eb sbs, e = .returned (.tuple #[.slice (some ⟨eb, 0, none⟩) t t, .int .i64 0]) ∧ EbAt w' eb t (im 0).cn sbs (histF (im 0).cn ch (fun i => (im i).F) t)) ∧ Below W.heap.size W w' :=
  (Epochs_ok a t c im (im 0).cn ch W w.heap.size hb.size (h.imgs.below hb) hc.mov hch).mono fun e w' h => by
    obtain ⟨h1, ⟨_, eb, sbs, h2, h3⟩ | ⟨⟨i, hi, h2⟩, _⟩⟩ := h
    · exact ⟨⟨eb, sbs, h2, World.block_lt_of_cell? w' _ (h3 0 hc.t1).1, fun i hi => ⟨(h3 i hi).1, (h3 i hi).2.2⟩⟩, h1⟩
    · exact absurd (hist_none hi h2) hH
end
set_option maxRecDepth 100000 in
set_option maxHeartbeats 4000000 in
theorem ep_C2 (a : Option Addr) (t c : Nat) (im : Nat → IM) (ch : Int) (w : World) (h : IsIn a t im w) (hc : EpC t im) (hE : movE t im (inB ch 0 1000) = 2) (W : World) (u2 u3 u4 u8 u9 u10 u11 u12 u13 u14 u15 u16 u17 u18 u19 u20 u21 u22 u23 u24 u25 u26 u27 u28 u29 u30 u31 u32 u33 u34 u35 u36 u37 u38 u39 u40 u41 u42 u43 u44 u45 u46 u47 u48 u49 u50 u51 u52 u53 u54 u55 u56 u57 u58 u59 u60 u61 u62 u63 u64 u65 u66 u67 u68 u69 u70 u71 u72 u73 u74 u75 u76 u77 u78 u79 u80 u81 u82 u83 u84 u85 u86 u87 u88 u89 u90 u91 u92 u93 u94 u95 u96 u97 u98 u99 u100 u101 u102 u103 u104 u105 u106 u107 u108 u109 u110 u111 u112 u113 u114 u115 u116 u117 u118 u119 u120 u121 u122 u123 u124 u125 u126 u127 u128 u129 u130 u131 u132 u133 u134 u135 u136 u137 u138 u139 u140 u141 u142 u143 u144 u145 u146 u147 u148 u149 u150 u151 u152 u153 u154 u155 u156 u157 u158 u159 u160 u161 u162 u163 u164 u165 u166 u167 u168 u169 u170 u171 u172 u173 u174 u175 u176 u177 u178 u179 u180 u181 u182 u183 u184 u185 u186 u187 u188 u189 u190 u191 u192 u193 u194 u195 u196 u197 u198 u199 u200 u201 u202 u203 u204 u205 u206 u207 u208 u209 u210 u211 u212 u213 u214 u215 u216 u217 u218 u219 u220 u221 u222 u223 u224 u225 u226 u227 u228 u229 : Value) (hb : Below w.heap.size w W) :
    (epFrom 5).wp Tryd.prog (bodyPost Tryd.prog Tryd.f6 (epPost w)) ⟨#[.slice a t c, .int .i64 ch, u2, u3, u4, .bool false, .bool false, .bool true, u8, u9, u10, u11, u12, u13, u14, u15, u16, u17, u18, u19, u20, u21, u22, u23, u24, u25, u26, u27, u28, u29, u30, u31, u32, u33, u34, u35, u36, u37, u38, u39, u40, u41, u42, u43, u44, u45, u46, u47, u48, u49, u50, u51, u52, u53, u54, u55, u56, u57, u58, u59, u60, u61, u62, u63, u64, u65, u66, u67, u68, u69, u70, u71, u72, u73, u74, u75, u76, u77, u78, u79, u80, u81, u82, u83, u84, u85, u86, u87, u88, u89, u90, u91, u92, u93, u94, u95, u96, u97, u98, u99, u100, u101, u102, u103, u104, u105, u106, u107, u108, u109, u110, u111, u112, u113, u114, u115, u116, u117, u118, u119, u120, u121, u122, u123, u124, u125, u126, u127, u128, u129, u130, u131, u132, u133, u134, u135, u136, u137, u138, u139, u140, u141, u142, u143, u144, u145, u146, u147, u148, u149, u150, u151, u152, u153, u154, u155, u156, u157, u158, u159, u160, u161, u162, u163, u164, u165, u166, u167, u168, u169, u170, u171, u172, u173, u174, u175, u176, u177, u178, u179, u180, u181, u182, u183, u184, u185, u186, u187, u188, u189, u190, u191, u192, u193, u194, u195, u196, u197, u198, u199, u200, u201, u202, u203, u204, u205, u206, u207, u208, u209, u210, u211, u212, u213, u214, u215, u216, u217, u218, u219, u220, u221, u222, u223, u224, u225, u226, u227, u228, u229], []⟩ W := by
  conv => arg 2; whnf
  have HEP := Lib.hid (fun (W : World) (hb : Below w.heap.size w W) => h.epE (c := c) (ch := ch) hE (by decide) hb)
  have HKN := Lib.hid (fun (W : World) (hb : Below w.heap.size w W) => h.known hb); have HB := Lib.hid hb; have HI := Lib.hid h.imgs; obtain ⟨N, hN1, hN2, hN3, hN4⟩ := hc.calm; have HCA := Lib.hid (fun (W : World) (hb : Below w.heap.size w W) => h.calm0 (c := c) hc hN1 hb); have HRC := Lib.hid (fun (W : World) (hb : Below w.heap.size w W) => h.rcalm (c := c) hc hN2 hN3 hN4 hb); have HAL := Lib.hid (fun (i : Nat) (hi : i < t) (W : World) (hb : Below w.heap.size w W) => h.allC hi (hc.good i hi) hb); have HNE := Lib.hid (fun (i : Nat) (hi : i < t) => show (im i).F.length ≠ 0 from fun e => hc.some i hi (List.eq_nil_of_length_eq_zero e)); have h6' : ¬ (6 : Int) < (t : Int) := (by have := hc.t6; omega); have h6b : (t : Int) ≤ 6 := (by have := hc.t6; omega); have ht1 := hc.t1; have h0t : (0 : Int) < (t : Int) := (by omega); clear hN1 hN2 hN3 hN4
  generalize hres : epPost w = RES; have HR := Lib.hid (fun (w' : World) (hb : Below w.heap.size w w') => show RES (.returned (.bool true)) w' from hres ▸ ⟨rfl, hb⟩); clear hres
  clear h hc hE hb
  go_upto_region 14 with (first | (go_at_call 30; refine (HEP.out _ HB.out).mono ?_; rintro e w2 ⟨rfl, hb2⟩; have HBx := Lib.hid (HB.out.trans ((hb2).mono HB.out.size)); clear HB; have HB := HBx; clear HBx; clear hb2) | (go_at_call 31; refine (HCA.out _ HB.out).mono ?_; rintro e w3 ⟨rfl, hb3⟩; have HBx := Lib.hid (HB.out.trans ((hb3).mono HB.out.size)); clear HB; have HB := HBx; clear HBx; clear hb3))
  rename World => W2; have HBW := HB; clear HB HEP HCA; go_wp2; go_loopw [13, 14] (fun s13 s14 wr => ∃ i : Nat, i ≤ t ∧ s14 = .int .i64 (i : Int) ∧ s13 = .int .i64 0 ∧ Hid (Below W2.heap.size W2 wr)) (fun _ s14 _ => t - (intOf s14).toNat)
  case atStart => exact ⟨0, Nat.zero_le _, rfl, rfl, Lib.hid (Below.refl _ _)⟩
  case round =>
    obtain ⟨i, hi, rfl, rfl, HX⟩ := hrel
    by_cases hlt : i < t
    · (have HB := Lib.hid (HBW.out.trans (HX.out.mono HBW.out.size)); have hlt' : (i : Int) < (t : Int) := (by omega); obtain ⟨xb, xo, hxa, hxB, x0, x1, _, _⟩ := (HI.out.below HB.out).get hlt; subst hxa; have hxr : xb < wr.heap.size := (by have := HB.out.size; omega); have hz := HNE.out i hlt; generalize hlen : (im i).F.length = len at hz; have HLEN := Lib.hid hlen; have hlz : ((len : Int) == 0) = false := (by rw [beq_eq_false_iff_ne]; omega); clear hlen hz; go_wp2_with (go_at_call 14; refine (HAL.out i hlt _ HB.out).mono ?_; rintro e w4 ⟨⟨la, lc, rfl⟩, hb4⟩; rw [HLEN.out]); go_roundw; (case rel => exact ⟨i + 1, by omega, by go_num, rfl, Lib.hid (HX.out.trans (hb4.mono HX.out.size))⟩); (case measure => (simp [intOf]; omega)))
    · obtain rfl : i = t := by omega
      have hlt' : ¬ (i : Int) < (i : Int) := by omega
      have HB := Lib.hid (HBW.out.trans (HX.out.mono HBW.out.size))
      clear HX HBW HAL HNE HI
      go_wp2_with (first | (go_at_call 32; refine (HRC.out _ HB.out).mono ?_; rintro e w5 ⟨rfl, hb5⟩; have HBx := Lib.hid (HB.out.trans ((hb5).mono HB.out.size)); clear HB; have HB := HBx; clear HBx; clear hb5) | (go_at_call 11; refine (HKN.out _ HB.out).mono ?_; rintro e w9 ⟨rfl, hb9⟩; have HBx := Lib.hid (HB.out.trans ((hb9).mono HB.out.size)); clear HB; have HB := HBx; clear HBx; clear hb9))
      exact HR.out _ HB.out
set_option maxRecDepth 100000 in
set_option maxHeartbeats 4000000 in
theorem ep_C1 (a : Option Addr) (t c : Nat) (im : Nat → IM) (ch : Int) (w : World) (h : IsIn a t im w) (hc : EpC t im) (hch : 0 ≤ ch ∧ ch ≤ 1000) (hH : histF (im 0).cn ch (fun i => (im i).F) t 0 = []) (W : World) (u2 u3 u4 u8 u9 u10 u11 u12 u13 u14 u15 u16 u17 u18 u19 u20 u21 u22 u23 u24 u25 u26 u27 u28 u29 u30 u31 u32 u33 u34 u35 u36 u37 u38 u39 u40 u41 u42 u43 u44 u45 u46 u47 u48 u49 u50 u51 u52 u53 u54 u55 u56 u57 u58 u59 u60 u61 u62 u63 u64 u65 u66 u67 u68 u69 u70 u71 u72 u73 u74 u75 u76 u77 u78 u79 u80 u81 u82 u83 u84 u85 u86 u87 u88 u89 u90 u91 u92 u93 u94 u95 u96 u97 u98 u99 u100 u101 u102 u103 u104 u105 u106 u107 u108 u109 u110 u111 u112 u113 u114 u115 u116 u117 u118 u119 u120 u121 u122 u123 u124 u125 u126 u127 u128 u129 u130 u131 u132 u133 u134 u135 u136 u137 u138 u139 u140 u141 u142 u143 u144 u145 u146 u147 u148 u149 u150 u151 u152 u153 u154 u155 u156 u157 u158 u159 u160 u161 u162 u163 u164 u165 u166 u167 u168 u169 u170 u171 u172 u173 u174 u175 u176 u177 u178 u179 u180 u181 u182 u183 u184 u185 u186 u187 u188 u189 u190 u191 u192 u193 u194 u195 u196 u197 u198 u199 u200 u201 u202 u203 u204 u205 u206 u207 u208 u209 u210 u211 u212 u213 u214 u215 u216 u217 u218 u219 u220 u221 u222 u223 u224 u225 u226 u227 u228 u229 : Value) (hb : Below w.heap.size w W) :
    (epFrom 5).wp Tryd.prog (bodyPost Tryd.prog Tryd.f6 (epPost w)) ⟨#[.slice a t c, .int .i64 ch, u2, u3, u4, .bool true, .bool false, .bool true, u8, u9, u10, u11, u12, u13, u14, u15, u16, u17, u18, u19, u20, u21, u22, u23, u24, u25, u26, u27, u28, u29, u30, u31, u32, u33, u34, u35, u36, u37, u38, u39, u40, u41, u42, u43, u44, u45, u46, u47, u48, u49, u50, u51, u52, u53, u54, u55, u56, u57, u58, u59, u60, u61, u62, u63, u64, u65, u66, u67, u68, u69, u70, u71, u72, u73, u74, u75, u76, u77, u78, u79, u80, u81, u82, u83, u84, u85, u86, u87, u88, u89, u90, u91, u92, u93, u94, u95, u96, u97, u98, u99, u100, u101, u102, u103, u104, u105, u106, u107, u108, u109, u110, u111, u112, u113, u114, u115, u116, u117, u118, u119, u120, u121, u122, u123, u124, u125, u126, u127, u128, u129, u130, u131, u132, u133, u134, u135, u136, u137, u138, u139, u140, u141, u142, u143, u144, u145, u146, u147, u148, u149, u150, u151, u152, u153, u154, u155, u156, u157, u158, u159, u160, u161, u162, u163, u164, u165, u166, u167, u168, u169, u170, u171, u172, u173, u174, u175, u176, u177, u178, u179, u180, u181, u182, u183, u184, u185, u186, u187, u188, u189, u190, u191, u192, u193, u194, u195, u196, u197, u198, u199, u200, u201, u202, u203, u204, u205, u206, u207, u208, u209, u210, u211, u212, u213, u214, u215, u216, u217, u218, u219, u220, u221, u222, u223, u224, u225, u226, u227, u228, u229], []⟩ W := by
  conv => arg 2; whnf
  have HEP := Lib.hid (fun (W : World) (hb : Below w.heap.size w W) => h.ep0 (c := c) hc hch hH hb)
  have HHI := Lib.hid (fun (W : World) (hb : Below w.heap.size w W) => h.history (c := c) (ch := ch) hc hb)
  have HLE := Lib.hid (show (histF (im 0).cn ch (fun i => (im i).F) t 0).length = 0 from by rw [hH]; rfl)
  have HKN := Lib.hid (fun (W : World) (hb : Below w.heap.size w W) => h.known hb); have HB := Lib.hid hb; have HI := Lib.hid h.imgs; obtain ⟨N, hN1, hN2, hN3, hN4⟩ := hc.calm; have HCA := Lib.hid (fun (W : World) (hb : Below w.heap.size w W) => h.calm0 (c := c) hc hN1 hb); have HRC := Lib.hid (fun (W : World) (hb : Below w.heap.size w W) => h.rcalm (c := c) hc hN2 hN3 hN4 hb); have HAL := Lib.hid (fun (i : Nat) (hi : i < t) (W : World) (hb : Below w.heap.size w W) => h.allC hi (hc.good i hi) hb); have HNE := Lib.hid (fun (i : Nat) (hi : i < t) => show (im i).F.length ≠ 0 from fun e => hc.some i hi (List.eq_nil_of_length_eq_zero e)); have h6' : ¬ (6 : Int) < (t : Int) := (by have := hc.t6; omega); have h6b : (t : Int) ≤ 6 := (by have := hc.t6; omega); have ht1 := hc.t1; have h0t : (0 : Int) < (t : Int) := (by omega); clear hN1 hN2 hN3 hN4
  generalize hres : epPost w = RES; have HR := Lib.hid (fun (w' : World) (hb : Below w.heap.size w w') => show RES (.returned (.bool true)) w' from hres ▸ ⟨rfl, hb⟩); clear hres
  clear h hc hb hH hch
  go_upto_region 14 with (first | (go_at_call 30; refine (HEP.out _ HB.out).mono ?_; rintro e w2 ⟨rfl, hb2⟩; have HBx := Lib.hid (HB.out.trans ((hb2).mono HB.out.size)); clear HB; have HB := HBx; clear HBx; clear hb2) | (go_at_call 31; refine (HCA.out _ HB.out).mono ?_; rintro e w3 ⟨rfl, hb3⟩; have HBx := Lib.hid (HB.out.trans ((hb3).mono HB.out.size)); clear HB; have HB := HBx; clear HBx; clear hb3))
  rename World => W2; have HBW := HB; clear HB HEP HCA; go_wp2; go_loopw [13, 14] (fun s13 s14 wr => ∃ i : Nat, i ≤ t ∧ s14 = .int .i64 (i : Int) ∧ s13 = .int .i64 0 ∧ Hid (Below W2.heap.size W2 wr)) (fun _ s14 _ => t - (intOf s14).toNat)
  case atStart => exact ⟨0, Nat.zero_le _, rfl, rfl, Lib.hid (Below.refl _ _)⟩
  case round =>
    obtain ⟨i, hi, rfl, rfl, HX⟩ := hrel
    by_cases hlt : i < t
    · (have HB := Lib.hid (HBW.out.trans (HX.out.mono HBW.out.size)); have hlt' : (i : Int) < (t : Int) := (by omega); obtain ⟨xb, xo, hxa, hxB, x0, x1, _, _⟩ := (HI.out.below HB.out).get hlt; subst hxa; have hxr : xb < wr.heap.size := (by have := HB.out.size; omega); have hz := HNE.out i hlt; generalize hlen : (im i).F.length = len at hz; have HLEN := Lib.hid hlen; have hlz : ((len : Int) == 0) = false := (by rw [beq_eq_false_iff_ne]; omega); clear hlen hz; go_wp2_with (go_at_call 14; refine (HAL.out i hlt _ HB.out).mono ?_; rintro e w4 ⟨⟨la, lc, rfl⟩, hb4⟩; rw [HLEN.out]); go_roundw; (case rel => exact ⟨i + 1, by omega, by go_num, rfl, Lib.hid (HX.out.trans (hb4.mono HX.out.size))⟩); (case measure => (simp [intOf]; omega)))
    · obtain rfl : i = t := by omega
      have hlt' : ¬ (i : Int) < (i : Int) := by omega
      have HB := Lib.hid (HBW.out.trans (HX.out.mono HBW.out.size))
      clear HX HBW HAL HNE HI
      go_wp2_with (first | (go_at_call 32; refine (HRC.out _ HB.out).mono ?_; rintro e w5 ⟨rfl, hb5⟩; have HBx := Lib.hid (HB.out.trans ((hb5).mono HB.out.size)); clear HB; have HB := HBx; clear HBx; clear hb5) | (go_at_call 33; refine (HHI.out _ HB.out).mono ?_; rintro e w6 ⟨⟨oa, oc, rfl, hL⟩, hb6⟩; obtain ⟨yb, yo, ya, yc, rfl, hyz, y0, _⟩ := hL.get (k := 0) ht1; rw [HLE.out, Nat.add_zero] at y0; clear hL; have HBx := Lib.hid (HB.out.trans ((hb6).mono HB.out.size)); clear HB; have HB := HBx; clear HBx; clear hb6) | (go_at_call 11; refine (HKN.out _ HB.out).mono ?_; rintro e w9 ⟨rfl, hb9⟩; have HBx := Lib.hid (HB.out.trans ((hb9).mono HB.out.size)); clear HB; have HB := HBx; clear HBx; clear hb9))
      exact HR.out _ HB.out
set_option maxRecDepth 100000 in
set_option maxHeartbeats 4000000 in
theorem ep_C0 (a : Option Addr) (t c : Nat) (im : Nat → IM) (ch : Int) (w : World) (h : IsIn a t im w) (hc : EpC t im) (hch : 0 ≤ ch ∧ ch ≤ 1000) (hH : histF (im 0).cn ch (fun i => (im i).F) t 0 ≠ []) (W : World) (u2 u3 u4 u8 u9 u10 u11 u12 u13 u14 u15 u16 u17 u18 u19 u20 u21 u22 u23 u24 u25 u26 u27 u28 u29 u30 u31 u32 u33 u34 u35 u36 u37 u38 u39 u40 u41 u42 u43 u44 u45 u46 u47 u48 u49 u50 u51 u52 u53 u54 u55 u56 u57 u58 u59 u60 u61 u62 u63 u64 u65 u66 u67 u68 u69 u70 u71 u72 u73 u74 u75 u76 u77 u78 u79 u80 u81 u82 u83 u84 u85 u86 u87 u88 u89 u90 u91 u92 u93 u94 u95 u96 u97 u98 u99 u100 u101 u102 u103 u104 u105 u106 u107 u108 u109 u110 u111 u112 u113 u114 u115 u116 u117 u118 u119 u120 u121 u122 u123 u124 u125 u126 u127 u128 u129 u130 u131 u132 u133 u134 u135 u136 u137 u138 u139 u140 u141 u142 u143 u144 u145 u146 u147 u148 u149 u150 u151 u152 u153 u154 u155 u156 u157 u158 u159 u160 u161 u162 u163 u164 u165 u166 u167 u168 u169 u170 u171 u172 u173 u174 u175 u176 u177 u178 u179 u180 u181 u182 u183 u184 u185 u186 u187 u188 u189 u190 u191 u192 u193 u194 u195 u196 u197 u198 u199 u200 u201 u202 u203 u204 u205 u206 u207 u208 u209 u210 u211 u212 u213 u214 u215 u216 u217 u218 u219 u220 u221 u222 u223 u224 u225 u226 u227 u228 u229 : Value) (hb : Below w.heap.size w W) :
    (epFrom 5).wp Tryd.prog (bodyPost Tryd.prog Tryd.f6 (epPost w)) ⟨#[.slice a t c, .int .i64 ch, u2, u3, u4, .bool true, .bool false, .bool true, u8, u9, u10, u11, u12, u13, u14, u15, u16, u17, u18, u19, u20, u21, u22, u23, u24, u25, u26, u27, u28, u29, u30, u31, u32, u33, u34, u35, u36, u37, u38, u39, u40, u41, u42, u43, u44, u45, u46, u47, u48, u49, u50, u51, u52, u53, u54, u55, u56, u57, u58, u59, u60, u61, u62, u63, u64, u65, u66, u67, u68, u69, u70, u71, u72, u73, u74, u75, u76, u77, u78, u79, u80, u81, u82, u83, u84, u85, u86, u87, u88, u89, u90, u91, u92, u93, u94, u95, u96, u97, u98, u99, u100, u101, u102, u103, u104, u105, u106, u107, u108, u109, u110, u111, u112, u113, u114, u115, u116, u117, u118, u119, u120, u121, u122, u123, u124, u125, u126, u127, u128, u129, u130, u131, u132, u133, u134, u135, u136, u137, u138, u139, u140, u141, u142, u143, u144, u145, u146, u147, u148, u149, u150, u151, u152, u153, u154, u155, u156, u157, u158, u159, u160, u161, u162, u163, u164, u165, u166, u167, u168, u169, u170, u171, u172, u173, u174, u175, u176, u177, u178, u179, u180, u181, u182, u183, u184, u185, u186, u187, u188, u189, u190, u191, u192, u193, u194, u195, u196, u197, u198, u199, u200, u201, u202, u203, u204, u205, u206, u207, u208, u209, u210, u211, u212, u213, u214, u215, u216, u217, u218, u219, u220, u221, u222, u223, u224, u225, u226, u227, u228, u229], []⟩ W := by
  conv => arg 2; whnf
  have HEP := Lib.hid (fun (W : World) (hb : Below w.heap.size w W) => h.ep1 (c := c) hc hch hH hb)
  have HHI := Lib.hid (fun (W : World) (hb : Below w.heap.size w W) => h.history (c := c) (ch := ch) hc hb)
  have hgl := good_len (hc.good 0 hc.t1)
  have hn40 := hgl.2.2
  have HHS := Lib.hid (fun (i : Nat) (hi : i < t) => show histF (im 0).cn ch (fun i => (im i).F) t i ≠ [] ∧ (histF (im 0).cn ch (fun i => (im i).F) t i).length ≤ 1000 from ⟨hist_all hH i hi, Nat.le_trans (hist_sub hi).2 (good_len (hc.good i hi)).1⟩)
  have HKN := Lib.hid (fun (W : World) (hb : Below w.heap.size w W) => h.known hb); have HB := Lib.hid hb; have HI := Lib.hid h.imgs; obtain ⟨N, hN1, hN2, hN3, hN4⟩ := hc.calm; have HCA := Lib.hid (fun (W : World) (hb : Below w.heap.size w W) => h.calm0 (c := c) hc hN1 hb); have HRC := Lib.hid (fun (W : World) (hb : Below w.heap.size w W) => h.rcalm (c := c) hc hN2 hN3 hN4 hb); have HAL := Lib.hid (fun (i : Nat) (hi : i < t) (W : World) (hb : Below w.heap.size w W) => h.allC hi (hc.good i hi) hb); have HNE := Lib.hid (fun (i : Nat) (hi : i < t) => show (im i).F.length ≠ 0 from fun e => hc.some i hi (List.eq_nil_of_length_eq_zero e)); have h6' : ¬ (6 : Int) < (t : Int) := (by have := hc.t6; omega); have h6b : (t : Int) ≤ 6 := (by have := hc.t6; omega); have ht1 := hc.t1; have h0t : (0 : Int) < (t : Int) := (by omega); clear hN1 hN2 hN3 hN4
  generalize hres : epPost w = RES; have HR := Lib.hid (fun (w' : World) (hb : Below w.heap.size w w') => show RES (.returned (.bool true)) w' from hres ▸ ⟨rfl, hb⟩); clear hres
  clear h hc hb hgl hch
  generalize (im 0).cn = n at *
  generalize histF n ch (fun i => (im i).F) t = H at *
  obtain ⟨l0, hl0⟩ : ∃ l0, (H 0).length = l0 := ⟨_, rfl⟩
  have HLE := Lib.hid hl0
  have hl0z : ((l0 : Int) == 0) = false := by
    rw [beq_eq_false_iff_ne]
    intro e
    exact hH (List.eq_nil_of_length_eq_zero (by omega))
  clear hl0 hH
  go_upto_region 14 with (first | (go_at_call 30; refine (HEP.out _ HB.out).mono ?_; rintro e w2 ⟨⟨eb, sbs, rfl, hE⟩, hb2⟩; have HEB := Lib.hid hE; clear hE; have HBx := Lib.hid (HB.out.trans ((hb2).mono HB.out.size)); clear HB; have HB := HBx; clear HBx; clear hb2) | (go_at_call 31; refine (HCA.out _ HB.out).mono ?_; rintro e w3 ⟨rfl, hb3⟩; have HEx := Lib.hid (HEB.out.step hb3); clear HEB; have HEB := HEx; clear HEx; have HBx := Lib.hid (HB.out.trans ((hb3).mono HB.out.size)); clear HB; have HB := HBx; clear HBx; clear hb3))
  rename World => W2; have HBW := HB; clear HB HEP HCA; go_wp2; go_loopw [13, 14] (fun s13 s14 wr => ∃ i : Nat, i ≤ t ∧ s14 = .int .i64 (i : Int) ∧ s13 = .int .i64 0 ∧ Hid (Below W2.heap.size W2 wr)) (fun _ s14 _ => t - (intOf s14).toNat)
  case atStart => exact ⟨0, Nat.zero_le _, rfl, rfl, Lib.hid (Below.refl _ _)⟩
  case round =>
    obtain ⟨i, hi, rfl, rfl, HX⟩ := hrel
    by_cases hlt : i < t
    · (have HB := Lib.hid (HBW.out.trans (HX.out.mono HBW.out.size)); have hlt' : (i : Int) < (t : Int) := (by omega); obtain ⟨xb, xo, hxa, hxB, x0, x1, _, _⟩ := (HI.out.below HB.out).get hlt; subst hxa; have hxr : xb < wr.heap.size := (by have := HB.out.size; omega); have hz := HNE.out i hlt; generalize hlen : (im i).F.length = len at hz; have HLEN := Lib.hid hlen; have hlz : ((len : Int) == 0) = false := (by rw [beq_eq_false_iff_ne]; omega); clear hlen hz; go_wp2_with (go_at_call 14; refine (HAL.out i hlt _ HB.out).mono ?_; rintro e w4 ⟨⟨la, lc, rfl⟩, hb4⟩; rw [HLEN.out]); go_roundw; (case rel => exact ⟨i + 1, by omega, by go_num, rfl, Lib.hid (HX.out.trans (hb4.mono HX.out.size))⟩); (case measure => (simp [intOf]; omega)))
    · obtain rfl : i = t := by omega
      have hlt' : ¬ (i : Int) < (i : Int) := by omega
      have HB := Lib.hid (HBW.out.trans (HX.out.mono HBW.out.size))
      have HEx := Lib.hid (HEB.out.step HX.out)
      clear HEB
      have HEB := HEx
      clear HEx HX HBW HAL HNE HI
      go_upto_region 38 with (first | (go_at_call 32; refine (HRC.out _ HB.out).mono ?_; rintro e w5 ⟨rfl, hb5⟩; have HEx := Lib.hid (HEB.out.step hb5); clear HEB; have HEB := HEx; clear HEx; have HBx := Lib.hid (HB.out.trans ((hb5).mono HB.out.size)); clear HB; have HB := HBx; clear HBx; clear hb5) | (go_at_call 33; refine (HHI.out _ HB.out).mono ?_; rintro e w6 ⟨⟨oa, oc, rfl, hL⟩, hb6⟩; have HLI := Lib.hid hL; obtain ⟨yb, yo, ya, yc, rfl, hyz, y0, _⟩ := hL.get (k := 0) ht1; rw [HLE.out, Nat.add_zero] at y0; clear hL; have HEx := Lib.hid (HEB.out.step hb6); clear HEB; have HEB := HEx; clear HEx; have HBx := Lib.hid (HB.out.trans ((hb6).mono HB.out.size)); clear HB; have HB := HBx; clear HBx; clear hb6))
      go_upto_region 42 with (fail)
      rename World => W3
      have HBW := HB
      have HE3 := HEB
      clear HB HEB HRC HHI y0
      go_wp2
      go_loopw [16] (fun s16 wr => ∃ k : Nat, k ≤ i ∧ s16 = .int .i64 (k : Int) ∧ Hid (Below W3.heap.size W3 wr)) (fun s16 _ => i - (intOf s16).toNat)
      case atStart => exact ⟨0, Nat.zero_le _, rfl, Lib.hid (Below.refl _ _)⟩
      case round =>
        obtain ⟨k, hk, rfl, HX⟩ := hrel
        by_cases hlk : k < i
        · have hlk' : (k : Int) < (i : Int) := by omega
          have HEk := HE3.out.step HX.out
          obtain ⟨z0, z1⟩ := HEk.2 k hlk
          have hebz := HEk.1
          obtain ⟨xb, xo, xa, xc, hxa, hxB, x0, x1⟩ := (HLI.out.below HX.out).get hlk
          injection hxa with hxa
          injection hxa with e1 e2 _
          subst e1 e2
          have hxz : yb < wr.heap.size := Nat.lt_of_lt_of_le hxB HX.out.size
          have HZ1 := Lib.hid z1
          have HX1 := Lib.hid (x1.up HX.out.size)
          obtain ⟨hne, hll⟩ := HHS.out k hlk
          have HBD := Lib.hid (fun (W : World) (hb : Below wr.heap.size wr W) => r8Bounds_any xa n xc (H k) W ((HX1.out.below hb).up hb.size) hne (by omega) hn40)
          have HSS := Lib.hid (fun (W : World) (ob : Nat) (h1 : SR 48 W (sbs k) n (fun c => bnd (fun f => fOf f c) (H k))) (h2 : SR 48 W ob n (fun c => bnd (fun f => fOf f c) (H k))) => (SameSpans_any (some ⟨sbs k, 0, none⟩) (some ⟨ob, 0, none⟩) n n n n (fun c => bnd (fun f => fOf f c) (H k)) (fun c => bnd (fun f => fOf f c) (H k)) W W.heap.size (Nat.le_refl _) ⟨by unfold maxLen; omega, .inr ⟨sbs k, 0, rfl, h1.lt, fun j hj => by rw [Nat.zero_add]; exact h1.cell hj⟩⟩ ⟨by unfold maxLen; omega, .inr ⟨ob, 0, rfl, h2.lt, fun j hj => by rw [Nat.zero_add]; exact h2.cell hj⟩⟩).mono (R' := fun e w' => e = .returned (.bool true) ∧ Below W.heap.size W w') fun e w' h => by
            rw [sameSB_iff.2 ⟨rfl, fun i _ => ⟨rfl, rfl⟩⟩] at h
            exact h)
          obtain ⟨lk, hlkn⟩ : ∃ lk, (H k).length = lk := ⟨_, rfl⟩
          rw [hlkn] at x0 HBD
          clear z1 x1 HEk hlkn hne
          go_upto_region 45 with (fail)
          refine wp_region_any (by kernel_rfl) ?_
          change wpAny _ _ _ _ _ _ _ (World.drew wr)
          have z0 : wr.drew.cell? ⟨eb, k, none⟩ = _ := z0
          have x0 : wr.drew.cell? ⟨yb, yo + k, none⟩ = _ := x0
          have HD := Lib.hid (show Below wr.heap.size wr wr.drew from (Below.refl _ _).drew)
          have hzd : wr.drew.heap.size = wr.heap.size := rfl
          generalize World.drew wr = Wd at *
          refine any_of_tail 10 10 (fun w' => w'.cell? ⟨eb, k, none⟩ = some (.slice (some ⟨sbs k, 0, none⟩) n n) ∧ w'.cell? ⟨yb, yo + k, none⟩ = some (.slice xa lk xc)) (by kernel_rfl) ⟨z0, x0⟩ (fun hS => ?_)
          refine headH_take (i := 0) (v := ?_) rfl (by kernel_rfl) (fun _ _ _ h => h) (Or.inl ⟨by rfl, ?_⟩) (by assumption) ?_; rotate_left; (· intro w' hSw; (try dsimp only at hSw); (try obtain ⟨hSw1, hSw2⟩ := hSw); go_simp; (try with_reducible rfl)); (try simp only [List.getElem_toArray, List.getElem_cons_zero, List.getElem_cons_succ]); (try dsimp only [Act.put]); (try simp only [List.setIfInBounds_toArray, List.set_cons_zero, List.set_cons_succ])
          refine headH_take (i := 1) (v := ?_) rfl (by kernel_rfl) (fun _ _ _ h => h) (Or.inl ⟨by rfl, ?_⟩) (by assumption) ?_; rotate_left; (· intro w' hSw; (try dsimp only at hSw); (try obtain ⟨hSw1, hSw2⟩ := hSw); go_simp; (try with_reducible rfl)); (try simp only [List.getElem_toArray, List.getElem_cons_zero, List.getElem_cons_succ]); (try dsimp only [Act.put]); (try simp only [List.setIfInBounds_toArray, List.set_cons_zero, List.set_cons_succ])
          refine headH_take (i := 2) (v := ?_) rfl (by kernel_rfl) (fun _ _ _ h => h) (Or.inl ⟨by rfl, ?_⟩) (by assumption) ?_; rotate_left; (· intro w' hSw; (try dsimp only at hSw); (try obtain ⟨hSw1, hSw2⟩ := hSw); go_simp; (try with_reducible rfl)); (try simp only [List.getElem_toArray, List.getElem_cons_zero, List.getElem_cons_succ]); (try dsimp only [Act.put]); (try simp only [List.setIfInBounds_toArray, List.set_cons_zero, List.set_cons_succ])
          refine headH_take (i := 3) (v := ?_) rfl (by kernel_rfl) (fun _ _ _ h => h) (Or.inl ⟨by rfl, ?_⟩) (by assumption) ?_; rotate_left; (· intro w' hSw; (try dsimp only at hSw); (try obtain ⟨hSw1, hSw2⟩ := hSw); go_simp; (try with_reducible rfl)); (try simp only [List.getElem_toArray, List.getElem_cons_zero, List.getElem_cons_succ]); (try dsimp only [Act.put]); (try simp only [List.setIfInBounds_toArray, List.set_cons_zero, List.set_cons_succ])
          refine headH_take (i := 4) (v := ?_) rfl (by kernel_rfl) (fun _ _ _ h => h) (Or.inl ⟨by rfl, ?_⟩) (by assumption) ?_; rotate_left; (· intro w' hSw; (try dsimp only at hSw); (try obtain ⟨hSw1, hSw2⟩ := hSw); go_simp; (try with_reducible rfl)); (try simp only [List.getElem_toArray, List.getElem_cons_zero, List.getElem_cons_succ]); (try dsimp only [Act.put]); (try simp only [List.setIfInBounds_toArray, List.set_cons_zero, List.set_cons_succ])
          refine headH_take (i := 5) (v := ?_) rfl (by kernel_rfl) (fun _ _ _ h => h) (Or.inl ⟨by rfl, ?_⟩) (by assumption) ?_; rotate_left; (· intro w' hSw; (try dsimp only at hSw); (try obtain ⟨hSw1, hSw2⟩ := hSw); go_simp; (try with_reducible rfl)); (try simp only [List.getElem_toArray, List.getElem_cons_zero, List.getElem_cons_succ]); (try dsimp only [Act.put]); (try simp only [List.setIfInBounds_toArray, List.set_cons_zero, List.set_cons_succ])
          refine headH_take (i := 6) (v := ?_) rfl (by kernel_rfl) (fun _ _ _ h => h) (Or.inl ⟨by rfl, ?_⟩) (by assumption) ?_; rotate_left; (· intro w' hSw; (try dsimp only at hSw); (try obtain ⟨hSw1, hSw2⟩ := hSw); go_simp; (try with_reducible rfl)); (try simp only [List.getElem_toArray, List.getElem_cons_zero, List.getElem_cons_succ]); (try dsimp only [Act.put]); (try simp only [List.setIfInBounds_toArray, List.set_cons_zero, List.set_cons_succ])
          refine headH_take (i := 7) (v := ?_) rfl (by kernel_rfl) (fun _ _ _ h => h) (Or.inl ⟨by rfl, ?_⟩) (by assumption) ?_; rotate_left; (· intro w' hSw; (try dsimp only at hSw); (try obtain ⟨hSw1, hSw2⟩ := hSw); go_simp; (try with_reducible rfl)); (try simp only [List.getElem_toArray, List.getElem_cons_zero, List.getElem_cons_succ]); (try dsimp only [Act.put]); (try simp only [List.setIfInBounds_toArray, List.set_cons_zero, List.set_cons_succ])
          refine headH_all (rs := [8]) (by kernel_rfl) (by simp) (by kernel_rfl) ?_; intro i0 hi0; simp only [List.mem_cons, List.not_mem_nil, or_false] at hi0
          subst hi0
          refine headH_op rfl (fun K hK => ?_)
          go_simp
          refine (HBD.out Wd HD.out).mono ?_
          rintro e W4 ⟨⟨ob, rfl, hob⟩, hb4⟩
          dsimp only
          have HOB := Lib.hid hob
          have z4 := ((bcell hb4).1 eb k (by omega)).trans z0
          have x4 := ((bcell hb4).1 yb (yo + k) (by omega)).trans x0
          have HB4 := Lib.hid (HD.out.trans (hb4.mono (by omega)))
          refine hK.out _ _ ⟨z4, x4⟩ (fun hS2 => ?_)
          clear hK K hS z0 x0 hb4 hob
          (try simp only [List.getElem_toArray, List.getElem_cons_zero, List.getElem_cons_succ]); (try dsimp only [Act.put]); (try simp only [List.setIfInBounds_toArray, List.set_cons_zero, List.set_cons_succ])
          refine headH_all (rs := [9]) (by kernel_rfl) (by simp) (by kernel_rfl) ?_; intro i0 hi0; simp only [List.mem_cons, List.not_mem_nil, or_false] at hi0
          subst hi0
          refine headH_op rfl (fun K hK => ?_)
          go_simp
          refine (HSS.out W4 ob (HZ1.out.step HB4.out) HOB.out).mono ?_
          rintro e W5 ⟨rfl, hb5⟩
          dsimp only
          have hz4 := HB4.out.size
          have z5 := ((bcell hb5).1 eb k (by omega)).trans z4
          have x5 := ((bcell hb5).1 yb (yo + k) (by omega)).trans x4
          have HB5 := Lib.hid (HX.out.trans ((HB4.out.trans (hb5.mono hz4)).mono HX.out.size))
          refine hK.out _ _ ⟨z5, x5⟩ (fun hS3 => ?_)
          clear hK K hS2 hS3 z4 x4 z5 x5 hb5
          (try simp only [List.getElem_toArray, List.getElem_cons_zero, List.getElem_cons_succ]); (try dsimp only [Act.put]); (try simp only [List.setIfInBounds_toArray, List.set_cons_zero, List.set_cons_succ])
          change tailL _ _ _ _ _ _ _ _
          refine ⟨by kernel_rfl, ?_⟩
          simp only [List.drop_succ_cons, List.drop_zero]
          clear HD HZ1 HX1 HBD HSS HOB HB4 HX hzd
          go_wp2
          exact ⟨⟨k + 1, by omega, by go_num, HB5⟩, by simp [intOf]; omega⟩
        · obtain rfl : k = i := by omega
          have hlk' : ¬ (k : Int) < (k : Int) := by omega
          have HB := Lib.hid (HBW.out.trans (HX.out.mono HBW.out.size))
          clear HX HBW HLI HE3
          go_wp2_with (first | (go_at_call 11; refine (HKN.out _ HB.out).mono ?_; rintro e w9 ⟨rfl, hb9⟩; have HBx := Lib.hid (HB.out.trans ((hb9).mono HB.out.size)); clear HB; have HB := HBx; clear HBx; clear hb9))
          exact HR.out _ HB.out
end Go.Proofs.YtlfegmjdheddjaaDoor
