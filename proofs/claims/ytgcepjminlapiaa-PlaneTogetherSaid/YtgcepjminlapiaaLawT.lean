/- Texts put together: LawL, TgG, LawN, LawO. -/
import Derived.Test.YtgcepjminlapiaaTgs
import Derived.Test.YtgcepjminlapiaaOpenX
import Derived.Test.YtgcepjminlapiaaLawD
import Derived.Test.YtgcepjminlapiaaKnown
import Derived.Test.YtgcepjminlapiaaRegs
import Derived.Deep.CutBlock
namespace Go.Proofs.Ytgcepjminlapiaa
open Go.RowKit
set_option linter.unusedVariables false
set_option linter.unusedSimpArgs false
set_option maxRecDepth 100000 in
set_option maxHeartbeats 2000000 in
theorem PT_out (a : Option Addr) (n c : Nat) (ps : Nat → PR) (time : Int) (ha : Option Addr) (m d : Nat) (ra : Option Addr) (rn rd : Nat) (oa : Option Addr) (on od : Nat) (w : World) (B : Nat) (hBw : B ≤ w.heap.size) (hP : Planes B w a n ps) (hm : m ≤ maxLen) (hr : rn ≤ maxLen) (ho : on ≤ maxLen) (hU : smallB n ps = false ∨ checkB n ps = false ∨ withinB time (-1000000000) 1000000000 = false ∨ 10 < m ∨ m = 0 ∨ rn ≠ m ∨ 10 < on) : Calls Try.prog 14 #[setupV a n c, .int .i64 time, .slice ha m d, .slice ra rn rd, .slice oa on od] w fun e w' => e = .returned (.bool true) ∧ Below w.heap.size w w' := by
  have HP := Lib.hid hP
  unfold maxLen at hm hr ho
  clear hP
  cases hsm : smallB n ps
  · clear hU
    (go_enter Try.func14, Try.ntmps14; go_wp2_with (first | (go_at_call 15; refine (small_any a n c ps _ B (by simp; omega) (HP.out.below ((Below.refl B w).alloc hBw _))).mono ?_; rintro e wy ⟨rfl, hby⟩; rw [hsm]; obtain ⟨l0, l1, l2, l3⟩ := LF_step LF_start hby; clear hby) | (go_at_call 19; refine (refSetup_any a n c ps _ B (by omega) (HP.out.below (l3.mono hBw))).mono ?_; rintro e wy ⟨rfl, hby⟩; rw [hC]; have hL := LF_step ⟨l0, l1, l2, l3⟩ hby; clear l0 l1 l2 l3; obtain ⟨l0, l1, l2, l3⟩ := hL; clear hby) | (go_at_call 24; refine (refIn_any _ _ _ _).mono ?_; rintro e w' ⟨rfl, rfl⟩) | (go_at_call 16; refine (lawKnown_any _).mono ?_; rintro e wy ⟨rfl, hby⟩; have hL := LF_step ⟨l0, l1, l2, l3⟩ hby; clear l0 l1 l2 l3; obtain ⟨l0, l1, l2, l3⟩ := hL; clear hby)); go_ret; exact ⟨rfl, l3⟩)
  · cases hC : checkB n ps
    · clear hU
      (go_enter Try.func14, Try.ntmps14; go_wp2_with (first | (go_at_call 15; refine (small_any a n c ps _ B (by simp; omega) (HP.out.below ((Below.refl B w).alloc hBw _))).mono ?_; rintro e wy ⟨rfl, hby⟩; rw [hsm]; obtain ⟨l0, l1, l2, l3⟩ := LF_step LF_start hby; clear hby) | (go_at_call 19; refine (refSetup_any a n c ps _ B (by omega) (HP.out.below (l3.mono hBw))).mono ?_; rintro e wy ⟨rfl, hby⟩; rw [hC]; have hL := LF_step ⟨l0, l1, l2, l3⟩ hby; clear l0 l1 l2 l3; obtain ⟨l0, l1, l2, l3⟩ := hL; clear hby) | (go_at_call 24; refine (refIn_any _ _ _ _).mono ?_; rintro e w' ⟨rfl, rfl⟩) | (go_at_call 16; refine (lawKnown_any _).mono ?_; rintro e wy ⟨rfl, hby⟩; have hL := LF_step ⟨l0, l1, l2, l3⟩ hby; clear l0 l1 l2 l3; obtain ⟨l0, l1, l2, l3⟩ := hL; clear hby)); go_ret; exact ⟨rfl, l3⟩)
    · cases hT : withinB time (-1000000000) 1000000000
      · clear hU
        (go_enter Try.func14, Try.ntmps14; go_wp2_with (first | (go_at_call 15; refine (small_any a n c ps _ B (by simp; omega) (HP.out.below ((Below.refl B w).alloc hBw _))).mono ?_; rintro e wy ⟨rfl, hby⟩; rw [hsm]; obtain ⟨l0, l1, l2, l3⟩ := LF_step LF_start hby; clear hby) | (go_at_call 19; refine (refSetup_any a n c ps _ B (by omega) (HP.out.below (l3.mono hBw))).mono ?_; rintro e wy ⟨rfl, hby⟩; rw [hC]; have hL := LF_step ⟨l0, l1, l2, l3⟩ hby; clear l0 l1 l2 l3; obtain ⟨l0, l1, l2, l3⟩ := hL; clear hby) | (go_at_call 24; refine (refIn_any _ _ _ _).mono ?_; rintro e w' ⟨rfl, rfl⟩) | (go_at_call 16; refine (lawKnown_any _).mono ?_; rintro e wy ⟨rfl, hby⟩; have hL := LF_step ⟨l0, l1, l2, l3⟩ hby; clear l0 l1 l2 l3; obtain ⟨l0, l1, l2, l3⟩ := hL; clear hby)); go_ret; exact ⟨rfl, l3⟩)
      · by_cases h1 : 10 < m
        · have h1' : (10 : Int) < (m : Int) := by omega
          clear hU
          (go_enter Try.func14, Try.ntmps14; go_wp2_with (first | (go_at_call 15; refine (small_any a n c ps _ B (by simp; omega) (HP.out.below ((Below.refl B w).alloc hBw _))).mono ?_; rintro e wy ⟨rfl, hby⟩; rw [hsm]; obtain ⟨l0, l1, l2, l3⟩ := LF_step LF_start hby; clear hby) | (go_at_call 19; refine (refSetup_any a n c ps _ B (by omega) (HP.out.below (l3.mono hBw))).mono ?_; rintro e wy ⟨rfl, hby⟩; rw [hC]; have hL := LF_step ⟨l0, l1, l2, l3⟩ hby; clear l0 l1 l2 l3; obtain ⟨l0, l1, l2, l3⟩ := hL; clear hby) | (go_at_call 24; refine (refIn_any _ _ _ _).mono ?_; rintro e w' ⟨rfl, rfl⟩) | (go_at_call 16; refine (lawKnown_any _).mono ?_; rintro e wy ⟨rfl, hby⟩; have hL := LF_step ⟨l0, l1, l2, l3⟩ hby; clear l0 l1 l2 l3; obtain ⟨l0, l1, l2, l3⟩ := hL; clear hby)); go_ret; exact ⟨rfl, l3⟩)
        · have h1' : ¬ (10 : Int) < (m : Int) := by omega
          by_cases h2 : m = 0
          · subst h2
            clear hU
            (go_enter Try.func14, Try.ntmps14; go_wp2_with (first | (go_at_call 15; refine (small_any a n c ps _ B (by simp; omega) (HP.out.below ((Below.refl B w).alloc hBw _))).mono ?_; rintro e wy ⟨rfl, hby⟩; rw [hsm]; obtain ⟨l0, l1, l2, l3⟩ := LF_step LF_start hby; clear hby) | (go_at_call 19; refine (refSetup_any a n c ps _ B (by omega) (HP.out.below (l3.mono hBw))).mono ?_; rintro e wy ⟨rfl, hby⟩; rw [hC]; have hL := LF_step ⟨l0, l1, l2, l3⟩ hby; clear l0 l1 l2 l3; obtain ⟨l0, l1, l2, l3⟩ := hL; clear hby) | (go_at_call 24; refine (refIn_any _ _ _ _).mono ?_; rintro e w' ⟨rfl, rfl⟩) | (go_at_call 16; refine (lawKnown_any _).mono ?_; rintro e wy ⟨rfl, hby⟩; have hL := LF_step ⟨l0, l1, l2, l3⟩ hby; clear l0 l1 l2 l3; obtain ⟨l0, l1, l2, l3⟩ := hL; clear hby)); go_ret; exact ⟨rfl, l3⟩)
          · have h2' : ((m : Int) == 0) = false := by rw [beq_eq_false_iff_ne]; omega
            by_cases h3 : rn = m
            · have h4 : 10 < on := by
                rcases hU with h | h | h | h | h | h | h
                · rw [hsm] at h; cases h
                · rw [hC] at h; cases h
                · rw [hT] at h; cases h
                · exact absurd h h1
                · exact absurd h h2
                · exact absurd h3 h
                · exact h
              subst h3
              have h4' : (10 : Int) < (on : Int) := by omega
              clear hU
              (go_enter Try.func14, Try.ntmps14; go_wp2_with (first | (go_at_call 15; refine (small_any a n c ps _ B (by simp; omega) (HP.out.below ((Below.refl B w).alloc hBw _))).mono ?_; rintro e wy ⟨rfl, hby⟩; rw [hsm]; obtain ⟨l0, l1, l2, l3⟩ := LF_step LF_start hby; clear hby) | (go_at_call 19; refine (refSetup_any a n c ps _ B (by omega) (HP.out.below (l3.mono hBw))).mono ?_; rintro e wy ⟨rfl, hby⟩; rw [hC]; have hL := LF_step ⟨l0, l1, l2, l3⟩ hby; clear l0 l1 l2 l3; obtain ⟨l0, l1, l2, l3⟩ := hL; clear hby) | (go_at_call 24; refine (refIn_any _ _ _ _).mono ?_; rintro e w' ⟨rfl, rfl⟩) | (go_at_call 16; refine (lawKnown_any _).mono ?_; rintro e wy ⟨rfl, hby⟩; have hL := LF_step ⟨l0, l1, l2, l3⟩ hby; clear l0 l1 l2 l3; obtain ⟨l0, l1, l2, l3⟩ := hL; clear hby)); go_ret; exact ⟨rfl, l3⟩)
            · have h3' : ((rn : Int) != (m : Int)) = true := by simp; omega
              clear hU
              (go_enter Try.func14, Try.ntmps14; go_wp2_with (first | (go_at_call 15; refine (small_any a n c ps _ B (by simp; omega) (HP.out.below ((Below.refl B w).alloc hBw _))).mono ?_; rintro e wy ⟨rfl, hby⟩; rw [hsm]; obtain ⟨l0, l1, l2, l3⟩ := LF_step LF_start hby; clear hby) | (go_at_call 19; refine (refSetup_any a n c ps _ B (by omega) (HP.out.below (l3.mono hBw))).mono ?_; rintro e wy ⟨rfl, hby⟩; rw [hC]; have hL := LF_step ⟨l0, l1, l2, l3⟩ hby; clear l0 l1 l2 l3; obtain ⟨l0, l1, l2, l3⟩ := hL; clear hby) | (go_at_call 24; refine (refIn_any _ _ _ _).mono ?_; rintro e w' ⟨rfl, rfl⟩) | (go_at_call 16; refine (lawKnown_any _).mono ?_; rintro e wy ⟨rfl, hby⟩; have hL := LF_step ⟨l0, l1, l2, l3⟩ hby; clear l0 l1 l2 l3; obtain ⟨l0, l1, l2, l3⟩ := hL; clear hby)); go_ret; exact ⟨rfl, l3⟩)
end Go.Proofs.Ytgcepjminlapiaa
namespace Go.Proofs.Ytgcepjminlapiaa
open Go.RowKit
set_option linter.unusedVariables false
set_option linter.unusedSimpArgs false
/-- what is left of a sequence behind its first statements -/
def dropSeq : Nat → Code → Code
  | 0, c => c
  | n + 1, .seq _ b => dropSeq n b
  | _ + 1, c => c
noncomputable def ptFrom (k : Nat) : Code := dropSeq k (Try.f14.body.getD .skip)
def ptPost (w : World) (e : Ending) (w' : World) : Prop := e = .returned (.bool true) ∧ Below w.heap.size w w'
theorem Spans.one {B : Nat} {w : World} {a : Option Addr} {n : Nat} {ss : Nat → SV} (h : Spans B w a n ss) {i : Nat} (hi : i < n) : ∃ b off, a = some ⟨b, off, none⟩ ∧ b < B ∧ w.cell? ⟨b, off + i * 2, none⟩ = some (.int .i64 (ss i).lo) ∧ w.cell? ⟨b, off + i * 2 + 1, none⟩ = some (.int .i64 (ss i).hi) := by
  rcases h.2 with h | ⟨b, off, ha, hB, hc⟩
  · omega
  · exact ⟨b, off, ha, hB, (hc i hi).1, (hc i hi).2⟩
/-- what the law holds while it builds the muon's hits -/
structure TL (a : Option Addr) (n c : Nat) (w : World) (va : Option Addr) (vc i : Nat) (xs : List Value) (W : World) : Prop where
  lf : LF a n c w W
  own : W.ownsRow (w.heap.size + 1) 26 6 (.slice va i vc) i xs
theorem TL.step {a : Option Addr} {n c : Nat} {w : World} {va : Option Addr} {vc i : Nat} {xs : List Value} {W wy : World} (h : TL a n c w va vc i xs W) (hb : Below W.heap.size W wy) : TL a n c w va vc i xs wy :=
  ⟨LF_step h.lf hb, own_below h.own hb⟩
theorem TL.box {a : Option Addr} {n c : Nat} {w : World} {va : Option Addr} {vc i : Nat} {xs : List Value} {W : World} (h : TL a n c w va vc i xs W) {hx j : Nat} (h1 : w.heap.size < hx) (h2 : (Value.slice va i vc).ownBlock ≠ some hx) (u : Value) : TL a n c w va vc i xs (W.setCell ⟨hx, j, none⟩ u) :=
  ⟨⟨(World.cell?_of_block (heap_setCell_other W ⟨hx, j, none⟩ w.heap.size u (by show w.heap.size ≠ hx; omega))).trans h.lf.1, by have := h.lf.2.1; simpa using this, by have := h.lf.2.2.1; simpa using this, h.lf.2.2.2.setCell (p := ⟨hx, j, none⟩) (by show w.heap.size ≤ hx; omega) u⟩, ownsRow_setCell_other h.own h2 u⟩
theorem TL.grow {a : Option Addr} {n c : Nat} {w : World} {va : Option Addr} {vc i : Nat} {xs ys : List Value} {W w6 : World} {o : Obj} {a6 : Option Addr} {c6 : Nat} (h : TL a n c w va vc i xs W) (hg : (W.alloc o).grownBy w6 (Value.slice va i vc).ownBlock) (ho : w6.ownsRow (w.heap.size + 1) 26 6 (.slice a6 (i + 1) c6) (i + 1) ys) : TL a n c w a6 c6 (i + 1) ys w6 := by
  have hz := hg.size
  simp at hz
  have h1 := h.lf.2.2.2.alloc h.lf.2.2.2.size o
  have h2 : Below w.heap.size w w6 := h1.grown hg (by have := h.lf.2.1; simp; omega) (fun k e => by have := (h.own.lt k e).1; omega)
  refine ⟨⟨?_, by have := h.lf.2.1; omega, by have := h.lf.2.1; omega, h2⟩, ho⟩
  have h3 : (W.alloc o).cell? ⟨w.heap.size, 0, none⟩ = some (.slice a n c) := ((bcell ((Below.refl W.heap.size W).alloc (Nat.le_refl _) o)).1 _ _ h.lf.2.2.1).trans h.lf.1
  exact hg.cell h3 (fun e => by have := (h.own.lt _ e.symm).1; simp at this; omega)
theorem TL.plane {a : Option Addr} {n c : Nat} {w : World} {va : Option Addr} {vc i : Nat} {LL : List HV} {W : World} (h : TL a n c w va vc i (hC LL) W) (hi : i ≤ 10) {j : Nat} (hj : j < i) : ∃ b off, va = some ⟨b, off, none⟩ ∧ W.cell? ⟨b, off + j * 6, none⟩ = some (.int .i64 (LL.getD j hv0).plane) := by
  obtain ⟨b, off, h1, _, h2, _⟩ := (own_hits h.own (by unfold maxLen; omega)).2.2.get hj
  exact ⟨b, off, h1, h2⟩
/-- what is known of the event that the muon's hits are in, ahead of hit j -/
def EvI (i : Nat) (film : Nat → Bool) (cs : List (List Nat)) (ev : Int) : Prop := ev = -1 ∨ ∃ j, j < i ∧ film j = false ∧ ev = evq cs cs.length j
end Go.Proofs.Ytgcepjminlapiaa
namespace Go.Proofs.Ytgcepjminlapiaa
open Go.RowKit
set_option linter.unusedVariables false
set_option linter.unusedSimpArgs false
set_option maxRecDepth 100000 in
set_option maxHeartbeats 2000000 in
theorem PT_end (a : Option Addr) (n c : Nat) (ps : Nat → PR) (time : Int) (w : World) (B : Nat) (hBw : B ≤ w.heap.size) (hP : Planes B w a n ps) (oa : Option Addr) (k2 od : Nat) (os : Nat → HV) (hO : Hits B w oa k2 os) (va : Option Addr) (vc i : Nat) (LL : List HV) (hc : Nat → HV)
    (hi : i ≤ 10) (hk : k2 ≤ 10) (hcl : ∀ j, j < i → hc j = LL.getD j hv0) (N : Nat) (hN1 : N ≤ i + k2) (hN2 : i + k2 ≤ N) (hcr : ∀ j, i ≤ j → j < N → hc j = os (j - i)) (hof : ∀ j, j < N → ofB n ps (hc j) = true) (htime : ∀ j, j < i → tlOf ps hc j ≤ time ∧ time ≤ thOf ps hc j)
    (cs : List (List Nat)) (hsw : AllSwept N (tlOf ps hc) (thOf ps hc) (filmOf ps hc) cs) (nb : Nat) (W : World) (hT : TL a n c w va vc i (hC LL) W) (hN : NR W nb N (evq cs cs.length)) (u0 u1 u2 u3 u6 u7 u8 u9 u10 u12 u13 u14 u15 u16 u17 u18 u19 u21 u22 u23 u24 u25 u26 u27 u28 u29 u30 u31 u32 u33 u34 u35 u36 u37 u38 u39 u40 u41 u42 u43 u44 u45 u46 u47 u48 u49 u50 u51 u52 u53 u54 u55 u56 u57 u58 u59 u60 u61 u62 u63 u64 u65 u66 u67 u68 u69 u70 u71 u72 u73 u74 u75 u76 u77 u78 u79 u80 u81 u82 u83 u84 u85 u86 u87 u88 u89 u90 u91 u92 u93 u94 u95 u96 u97 u98 u99 u100 u101 u102 u103 u104 u105 u106 u107 u108 u109 u110 u111 u112 u113 u114 u115 u116 u117 u118 u119 u120 u121 u122 u123 u124 u125 u126 u127 u128 u129 u130 u131 u132 u133 u134 u135 u136 u137 u138 u139 u140 u141 u142 u143 u144 u145 u146 u147 u148 u149 u150 u151 u152 u153 u154 u155 u156 u157 u158 u159 u160 u161 u162 u163 u164 u165 u166 u167 u168 u169 u170 u171 u172 u173 u174 u175 u176 u177 u178 u179 u180 u181 u182 u183 u184 u185 u186 u187 u188 u189 u190 u191 u192 u193 u194 u195 u196 u197 u198 u199 u200 u201 u202 u203 u204 u205 u206 u207 u208 u209 u210 u211 u212 u213 u214 u215 u216 u217 u218 u219 u220 u221 u222 u223 u224 u225 u226 u227 u228 u229 u230 u231 u232 u233 u234 u235 u236 u237 u238 u239 u240 u241 u242 u243 u244 u245 u246 u247 u248 u249 u250 u251 u252 u253 u254 u255 u256 u257 u258 u259 u260 u261 u262 u263 u264 u265 u266 u267 u268 u269 u270 u271 u272 u273 u274 u275 u276 u277 u278 u279 u280 u281 u282 u283 u284 u285 u286 u287 u288 u289 u290 u291 u292 u293 u294 u295 u296 u297 u298 u299 u300 u301 u302 u303 u304 u305 u306 : Value) :
    (ptFrom 12).wp Try.prog (bodyPost Try.prog Try.f14 (ptPost w)) ⟨#[u0, u1, u2, u3, .slice oa k2 od, .pointer (some ⟨w.heap.size, 0, none⟩), u6, u7, u8, u9, u10, .slice va i vc, u12, u13, u14, u15, u16, u17, u18, u19, .slice (some ⟨nb, 0, none⟩) N N, u21, u22, u23, u24, u25, u26, u27, u28, u29, u30, u31, u32, u33, u34, u35, u36, u37, u38, u39, u40, u41, u42, u43, u44, u45, u46, u47, u48, u49, u50, u51, u52, u53, u54, u55, u56, u57, u58, u59, u60, u61, u62, u63, u64, u65, u66, u67, u68, u69, u70, u71, u72, u73, u74, u75, u76, u77, u78, u79, u80, u81, u82, u83, u84, u85, u86, u87, u88, u89, u90, u91, u92, u93, u94, u95, u96, u97, u98, u99, u100, u101, u102, u103, u104, u105, u106, u107, u108, u109, u110, u111, u112, u113, u114, u115, u116, u117, u118, u119, u120, u121, u122, u123, u124, u125, u126, u127, u128, u129, u130, u131, u132, u133, u134, u135, u136, u137, u138, u139, u140, u141, u142, u143, u144, u145, u146, u147, u148, u149, u150, u151, u152, u153, u154, u155, u156, u157, u158, u159, u160, u161, u162, u163, u164, u165, u166, u167, u168, u169, u170, u171, u172, u173, u174, u175, u176, u177, u178, u179, u180, u181, u182, u183, u184, u185, u186, u187, u188, u189, u190, u191, u192, u193, u194, u195, u196, u197, u198, u199, u200, u201, u202, u203, u204, u205, u206, u207, u208, u209, u210, u211, u212, u213, u214, u215, u216, u217, u218, u219, u220, u221, u222, u223, u224, u225, u226, u227, u228, u229, u230, u231, u232, u233, u234, u235, u236, u237, u238, u239, u240, u241, u242, u243, u244, u245, u246, u247, u248, u249, u250, u251, u252, u253, u254, u255, u256, u257, u258, u259, u260, u261, u262, u263, u264, u265, u266, u267, u268, u269, u270, u271, u272, u273, u274, u275, u276, u277, u278, u279, u280, u281, u282, u283, u284, u285, u286, u287, u288, u289, u290, u291, u292, u293, u294, u295, u296, u297, u298, u299, u300, u301, u302, u303, u304, u305, u306], []⟩ W := by
  have HP := Lib.hid hP
  have HO := Lib.hid hO
  have HCL := Lib.hid hcl
  have HCR := Lib.hid hcr
  have HOF := Lib.hid hof
  have HTM := Lib.hid htime
  have HSW := Lib.hid hsw
  have HT := Lib.hid hT
  have HN := Lib.hid hN
  clear hP hO hcl hcr hof htime hsw hT hN
  conv => arg 2; whnf
  go_wp2
  go_loopw [24, 25] (fun s24 s25 wr => ∃ (j : Nat) (ev : Int), j ≤ N ∧ s25 = .int .i64 (j : Int) ∧ s24 = .int .i64 ev ∧ Hid (EvI i (filmOf ps hc) cs ev) ∧ Hid (Below W.heap.size W wr)) (fun _ s25 _ => N - (intOf s25).toNat)
  case atStart => exact ⟨0, -1, Nat.zero_le _, rfl, rfl, Lib.hid (.inl rfl), Lib.hid (Below.refl _ _)⟩
  case round =>
    obtain ⟨j, ev, hj, rfl, rfl, HEV, HB⟩ := hrel
    obtain ⟨l0, l1, l2, l3⟩ := (HT.out.step HB.out).lf
    by_cases hlt : j < N
    · have hlt' : (j : Int) < (N : Int) := by omega
      have n0 := (HN.out.step HB.out).cell hlt
      obtain ⟨k, hkn, hpk, _⟩ := ofB_yes (HOF.out j hlt)
      have hkn' : (k : Int) < (n : Int) := by omega
      obtain ⟨pb, poff, rfl, hpB, ⟨c0, _⟩, _⟩ := (HP.out.below (l3.mono hBw)).get hkn
      have hfl := HSW.out.film_none hlt
      have hf2 : filmOf ps hc j = ((ps k).kind == 3) := by unfold filmOf; rw [hpk]; rfl
      obtain ⟨E, hE⟩ : ∃ E, E = evq cs cs.length j := ⟨_, rfl⟩
      rw [← hE] at n0 hfl
      have hn40 : (N : Int) ≤ 20 := by omega
      by_cases hm : j < i
      · have hm' : (j : Int) < (i : Int) := by omega
        obtain ⟨b, off, rfl, y0⟩ := (HT.out.step HB.out).plane hi hm
        rw [← HCL.out j hm, hpk] at y0
        have HF2 := Lib.hid hf2
        have HFL := Lib.hid hfl
        have HE := Lib.hid hE
        clear hf2 hfl hE hpk
        by_cases hneg : E < 0
        · have hk3 : ((ps k).kind == 3) = true := by rw [← HF2.out, HFL.out]; exact decide_eq_true hneg
          go_upto_region 52 with (fail)
          go_quiet (fail)
          go_wp2
          go_roundw
          case rel => exact ⟨j + 1, ev, by omega, by go_num, rfl, HEV, Lib.hid (below_drewN HB.out _)⟩
          case measure => simp [intOf]; omega
        · have hk3 : ((ps k).kind == 3) = false := by rw [← HF2.out, HFL.out]; exact decide_eq_false hneg
          have hfj : filmOf ps hc j = false := by rw [HFL.out]; exact decide_eq_false hneg
          have HFJ := Lib.hid hfj
          clear hfj
          rcases HEV.out with rfl | ⟨j0, h0, hf0, hev⟩
          · go_upto_region 52 with (fail)
            go_quiet (fail)
            go_wp2
            go_roundw
            case rel => exact ⟨j + 1, E, by omega, by go_num, rfl, Lib.hid (.inr ⟨j, hm, HFJ.out, HE.out⟩), Lib.hid (below_drewN HB.out _)⟩
            case measure => simp [intOf]; omega
          · have hse := HSW.out.same_event (t := time) (i := j0) (j := j) (by omega) hlt hf0 HFJ.out (HTM.out j0 h0).1 (HTM.out j0 h0).2 (HTM.out j hm).1 (HTM.out j hm).2
            rw [← hev, ← HE.out] at hse
            subst hse
            clear hev hf0
            go_upto_region 52 with (fail)
            go_quiet (fail)
            go_wp2
            go_roundw
            case rel => exact ⟨j + 1, ev, by omega, by go_num, rfl, HEV, Lib.hid (below_drewN HB.out _)⟩
            case measure => simp [intOf]; omega
      · have hm' : ¬ (j : Int) < (i : Int) := by omega
        have hsub : (j : Int) - (i : Int) = ((j - i : Nat) : Int) := by omega
        obtain ⟨b, off, rfl, hbB, y0, _⟩ := (HO.out.below (l3.mono hBw)).get (i := j - i) (by omega)
        rw [← HCR.out j (by omega) hlt, hpk] at y0
        have HF2 := Lib.hid hf2
        have HFL := Lib.hid hfl
        have HE := Lib.hid hE
        clear hf2 hfl hE hpk
        have hin : j - i < k2 := by omega
        have hsub1 : (0 : Int) ≤ (j : Int) - (i : Int) := by omega
        have hsub2 : ((j : Int) - (i : Int)).toNat = j - i := by omega
        have hin2 : (j : Int) - (i : Int) < (k2 : Int) := by omega
        clear hsub
        by_cases hneg : E < 0
        · have hk3 : ((ps k).kind == 3) = true := by rw [← HF2.out, HFL.out]; exact decide_eq_true hneg
          go_upto_region 52 with (fail)
          go_quiet (fail)
          go_wp2
          go_roundw
          case rel => exact ⟨j + 1, ev, by omega, by go_num, rfl, HEV, Lib.hid (below_drewN HB.out _)⟩
          case measure => simp [intOf]; omega
        · have hk3 : ((ps k).kind == 3) = false := by rw [← HF2.out, HFL.out]; exact decide_eq_false hneg
          go_upto_region 52 with (fail)
          go_quiet (fail)
          go_wp2
          go_roundw
          case rel => exact ⟨j + 1, ev, by omega, by go_num, rfl, HEV, Lib.hid (below_drewN HB.out _)⟩
          case measure => simp [intOf]; omega
    · obtain rfl : j = N := by omega
      have hlt' : ¬ (j : Int) < (j : Int) := by omega
      go_wp2_with (go_at_call 16; refine (lawKnown_any _).mono ?_; rintro e wy ⟨rfl, hby⟩)
      go_ret
      exact ⟨rfl, l3.trans (hby.mono l3.size)⟩
end Go.Proofs.Ytgcepjminlapiaa
namespace Go.Proofs.Ytgcepjminlapiaa
open Go.RowKit
set_option linter.unusedVariables false
set_option linter.unusedSimpArgs false
theorem byNumber_le (N : Nat) (c : List Nat) : (byNumber N c).length ≤ N := by
  unfold byNumber
  exact Nat.le_trans (List.length_filter_le _ _) (by simp)
theorem AllSwept.many {m : Nat} {lo hi : Nat → Int} {film : Nat → Bool} {cs : List (List Nat)} (h : AllSwept m lo hi film cs) : cs.length ≤ m := by
  have h1 := (flat_len cs h.ne).1
  have h2 := byNumber_len (m := m) (c := cs.flatten) (fun i hi => by
    obtain ⟨c, hc, hi⟩ := List.mem_flatten.1 hi
    exact (h.inside c hc i hi).1) (before_nodup h.sorted)
  have := byNumber_le m cs.flatten
  omega
theorem mapN_getD (N : Nat) (cs : List (List Nat)) (q : Nat) : (cs.map (byNumber N)).getD q [] = byNumber N (cs.getD q []) := by
  rw [List.getD_eq_getElem?_getD, List.getD_eq_getElem?_getD, List.getElem?_map]
  cases cs[q]? with
  | none => simp [byNumber]
  | some c => rfl
set_option maxRecDepth 100000 in
set_option maxHeartbeats 2000000 in
theorem PT_ev (a : Option Addr) (n c : Nat) (ps : Nat → PR) (time : Int) (w : World) (B : Nat) (hBw : B ≤ w.heap.size) (hP : Planes B w a n ps) (oa : Option Addr) (k2 od : Nat) (os : Nat → HV) (hO : Hits B w oa k2 os) (va : Option Addr) (vc i : Nat) (LL : List HV) (hc : Nat → HV)
    (hi : i ≤ 10) (hk : k2 ≤ 10) (hcl : ∀ j, j < i → hc j = LL.getD j hv0) (N : Nat) (hN1 : N ≤ i + k2) (hN2 : i + k2 ≤ N) (hcr : ∀ j, i ≤ j → j < N → hc j = os (j - i)) (hof : ∀ j, j < N → ofB n ps (hc j) = true) (htime : ∀ j, j < i → tlOf ps hc j ≤ time ∧ time ≤ thOf ps hc j)
    (cs : List (List Nat)) (hsw : AllSwept N (tlOf ps hc) (thOf ps hc) (filmOf ps hc) cs) (la : Option Addr) (lc L : Nat) (hL1 : L ≤ cs.length) (hL2 : cs.length ≤ L) (W : World) (hLs : Lists W.heap.size W la (cs.map (byNumber N))) (hT : TL a n c w va vc i (hC LL) W) (u1 u2 u3 u6 u7 u8 u9 u10 u12 u13 u14 u15 u16 u17 u20 u21 u22 u23 u24 u25 u26 u27 u28 u29 u30 u31 u32 u33 u34 u35 u36 u37 u38 u39 u40 u41 u42 u43 u44 u45 u46 u47 u48 u49 u50 u51 u52 u53 u54 u55 u56 u57 u58 u59 u60 u61 u62 u63 u64 u65 u66 u67 u68 u69 u70 u71 u72 u73 u74 u75 u76 u77 u78 u79 u80 u81 u82 u83 u84 u85 u86 u87 u88 u89 u90 u91 u92 u93 u94 u95 u96 u97 u98 u99 u100 u101 u102 u103 u104 u105 u106 u107 u108 u109 u110 u111 u112 u113 u114 u115 u116 u117 u118 u119 u120 u121 u122 u123 u124 u125 u126 u127 u128 u129 u130 u131 u132 u133 u134 u135 u136 u137 u138 u139 u140 u141 u142 u143 u144 u145 u146 u147 u148 u149 u150 u151 u152 u153 u154 u155 u156 u157 u158 u159 u160 u161 u162 u163 u164 u165 u166 u167 u168 u169 u170 u171 u172 u173 u174 u175 u176 u177 u178 u179 u180 u181 u182 u183 u184 u185 u186 u187 u188 u189 u190 u191 u192 u193 u194 u195 u196 u197 u198 u199 u200 u201 u202 u203 u204 u205 u206 u207 u208 u209 u210 u211 u212 u213 u214 u215 u216 u217 u218 u219 u220 u221 u222 u223 u224 u225 u226 u227 u228 u229 u230 u231 u232 u233 u234 u235 u236 u237 u238 u239 u240 u241 u242 u243 u244 u245 u246 u247 u248 u249 u250 u251 u252 u253 u254 u255 u256 u257 u258 u259 u260 u261 u262 u263 u264 u265 u266 u267 u268 u269 u270 u271 u272 u273 u274 u275 u276 u277 u278 u279 u280 u281 u282 u283 u284 u285 u286 u287 u288 u289 u290 u291 u292 u293 u294 u295 u296 u297 u298 u299 u300 u301 u302 u303 u304 u305 u306 : Value) (u0 : Value) :
    (ptFrom 8).wp Try.prog (bodyPost Try.prog Try.f14 (ptPost w)) ⟨#[u0, u1, u2, u3, .slice oa k2 od, .pointer (some ⟨w.heap.size, 0, none⟩), u6, u7, u8, u9, u10, .slice va i vc, u12, u13, u14, u15, u16, u17, .slice la L lc, .int .i64 0, u20, u21, u22, u23, u24, u25, u26, u27, u28, u29, u30, u31, u32, u33, u34, u35, u36, u37, u38, u39, u40, u41, u42, u43, u44, u45, u46, u47, u48, u49, u50, u51, u52, u53, u54, u55, u56, u57, u58, u59, u60, u61, u62, u63, u64, u65, u66, u67, u68, u69, u70, u71, u72, u73, u74, u75, u76, u77, u78, u79, u80, u81, u82, u83, u84, u85, u86, u87, u88, u89, u90, u91, u92, u93, u94, u95, u96, u97, u98, u99, u100, u101, u102, u103, u104, u105, u106, u107, u108, u109, u110, u111, u112, u113, u114, u115, u116, u117, u118, u119, u120, u121, u122, u123, u124, u125, u126, u127, u128, u129, u130, u131, u132, u133, u134, u135, u136, u137, u138, u139, u140, u141, u142, u143, u144, u145, u146, u147, u148, u149, u150, u151, u152, u153, u154, u155, u156, u157, u158, u159, u160, u161, u162, u163, u164, u165, u166, u167, u168, u169, u170, u171, u172, u173, u174, u175, u176, u177, u178, u179, u180, u181, u182, u183, u184, u185, u186, u187, u188, u189, u190, u191, u192, u193, u194, u195, u196, u197, u198, u199, u200, u201, u202, u203, u204, u205, u206, u207, u208, u209, u210, u211, u212, u213, u214, u215, u216, u217, u218, u219, u220, u221, u222, u223, u224, u225, u226, u227, u228, u229, u230, u231, u232, u233, u234, u235, u236, u237, u238, u239, u240, u241, u242, u243, u244, u245, u246, u247, u248, u249, u250, u251, u252, u253, u254, u255, u256, u257, u258, u259, u260, u261, u262, u263, u264, u265, u266, u267, u268, u269, u270, u271, u272, u273, u274, u275, u276, u277, u278, u279, u280, u281, u282, u283, u284, u285, u286, u287, u288, u289, u290, u291, u292, u293, u294, u295, u296, u297, u298, u299, u300, u301, u302, u303, u304, u305, u306], []⟩ W := by
  have HP := Lib.hid hP
  have HO := Lib.hid hO
  have HCL := Lib.hid hcl
  have HCR := Lib.hid hcr
  have HOF := Lib.hid hof
  have HTM := Lib.hid htime
  have HSW := Lib.hid hsw
  have HT := Lib.hid hT
  have HLS := Lib.hid hLs
  clear hP hO hcl hcr hof htime hsw hT hLs
  have hmk : ∀ W : World, (Instr.makeSlice 47 (.int .i64 ((i : Int) + (k2 : Int))) (.int .i64 ((i : Int) + (k2 : Int)))).run Try.prog W = .ok (.slice (some ⟨W.heap.size, 0, none⟩) N N) (W.alloc (.cells (madeCells #[.int .i64 0] N) 3)) := fun W => by
    have h := run_make_row' (P := Try.prog) 47 3 (.int .i64 0) 8 Try.underlying47 info_i64 rfl .i64 .i64 N (by omega) (by omega) W
    rwa [show (N : Int) = (i : Int) + (k2 : Int) by omega] at h
  have hr1 : (0 : Int) ≤ (i : Int) + (k2 : Int) := by omega
  have hr2 : (i : Int) + (k2 : Int) ≤ 20 := by omega
  conv => arg 2; whnf
  go_upto_region 32 with (fail)
  have HNM := Lib.hid (NR.made W N)
  have HBV := Lib.hid (show Below W.heap.size W (W.alloc (.cells (madeCells #[.int .i64 0] N) 3)) from (Below.refl _ _).alloc (Nat.le_refl _) _)
  have hL20 := HSW.out.many
  have hwn := HT.out.lf.2.2.1
  generalize World.alloc W _ = V at *
  generalize hnb : W.heap.size = nb at *
  have HNB := Lib.hid hnb
  clear hnb hmk hr1 hr2
  go_loopw [21] (fun t wr => ∃ j : Nat, j ≤ N ∧ t = .int .i64 (j : Int) ∧ Hid (NR wr nb N (fun x => if x < j then -1 else 0) ∧ Below nb W wr)) (fun t _ => N - (intOf t).toNat)
  case atStart => exact ⟨0, Nat.zero_le _, rfl, Lib.hid ⟨HNM.out, HBV.out⟩⟩
  case round =>
    clear HNM HBV
    obtain ⟨j, hj, rfl, HX⟩ := hrel
    by_cases hlt : j < N
    · have hlt' : (j : Int) < (N : Int) := by omega
      have n0 := HX.out.1.cell hlt
      have nf := HX.out.1.frozen j
      go_wp2
      go_roundw
      case rel => exact ⟨j + 1, by omega, by go_num, Lib.hid ⟨(HX.out.1.set hlt (-1)).congr (fun x hx => by (by_cases e : x = j; (rw [if_pos e, if_pos (by omega)]); (rw [if_neg e]; by_cases h2 : x < j; (rw [if_pos h2, if_pos (by omega)]); (rw [if_neg h2, if_neg (by omega)])))), HX.out.2.setCell (p := ⟨nb, j, none⟩) (Nat.le_refl _) _⟩⟩
      case measure => simp [intOf]; omega
    · obtain rfl : j = N := by omega
      have hlt' : ¬ (j : Int) < (j : Int) := by omega
      have HY := Lib.hid (show NR wr nb j (evq cs 0) ∧ Below nb W wr from ⟨HX.out.1.congr (fun x hx => by rw [if_pos hx]; rfl), HX.out.2⟩)
      clear HX
      go_upto_block 6 with (fail)
      go_cut [20] from 21 (fun s20 wx => s20 = .slice (some ⟨nb, 0, none⟩) j j ∧ Hid (NR wx nb j (evq cs L) ∧ Below nb W wx))
      · go_wp2
        go_loopw [22] (fun t wx => ∃ q : Nat, q ≤ L ∧ t = .int .i64 (q : Int) ∧ Hid (NR wx nb j (evq cs q) ∧ Below nb W wx)) (fun t _ => L - (intOf t).toNat)
        case atStart => exact ⟨0, Nat.zero_le _, rfl, HY⟩
        case round =>
          clear HY
          obtain ⟨q, hq, rfl, HX⟩ := hrel
          by_cases hlt2 : q < L
          · have hlt2' : (q : Int) < (L : Int) := by omega
            obtain ⟨b, off, g, cc, rfl, hbn, x0, hgn, xk⟩ := HLS.out.at (q := q) (by rw [List.length_map]; omega)
            rw [mapN_getD] at x0 xk
            have HRD := Lib.hid (fun k hk => HSW.out.read (q := q) (k := k) (by omega) hk)
            have HEN := Lib.hid (fun jj hjj => evk_end (N := j) (cs := cs) (q := q) (Nat.le_refl _) (j := jj) hjj)
            have HST := Lib.hid (fun jj => evk_start (N := j) (cs := cs) (q := q) (j := jj))
            have hX20 := byNumber_le j (cs.getD q [])
            generalize byNumber j (cs.getD q []) = X at *
            obtain ⟨M, hM⟩ : ∃ M, M = X.length := ⟨_, rfl⟩
            rw [← hM] at x0 xk HRD HEN hX20
            have X0 := Lib.hid x0
            have XK := Lib.hid xk
            clear x0 xk hM
            have z0 := ((bcell HX.out.2).1 _ _ hbn).trans X0.out
            go_wp2
            go_loopw [23] (fun t wx => ∃ k : Nat, k ≤ M ∧ t = .int .i64 (k : Int) ∧ Hid (NR wx nb j (evk j cs q k) ∧ Below nb W wx)) (fun t _ => M - (intOf t).toNat)
            case atStart => exact ⟨0, Nat.zero_le _, rfl, Lib.hid ⟨HX.out.1.congr (fun jj _ => (HST.out jj).symm), HX.out.2⟩⟩
            case round =>
              clear HX z0
              obtain ⟨k, hk2, rfl, HZ⟩ := hrel
              have z0 := ((bcell HZ.out.2).1 _ _ hbn).trans X0.out
              by_cases hlt3 : k < M
              · have hlt3' : (k : Int) < (M : Int) := by omega
                have z1 := ((bcell HZ.out.2).1 _ _ hgn).trans (XK.out k hlt3)
                obtain ⟨r1, r2, r3⟩ := HRD.out k hlt3
                generalize X.getD k 0 = v at *
                have n0 := HZ.out.1.cell r1
                rw [r2] at n0
                have nf := HZ.out.1.frozen v
                have R3 := Lib.hid r3
                have r1' : (v : Int) < (j : Int) := by omega
                have hw : withinB (v : Int) 0 ((j : Int) - 1) = true := withinB_iff.2 ⟨by omega, by omega⟩
                clear r2 r3
                go_wp2_with (go_at_call 24; refine (refIn_any _ _ _ _).mono ?_; rintro e w' ⟨rfl, rfl⟩)
                go_roundw
                case rel => exact ⟨k + 1, by omega, by go_num, Lib.hid ⟨(HZ.out.1.set r1 q).congr (fun jj _ => (R3.out jj).symm), HZ.out.2.setCell (p := ⟨nb, v, none⟩) (Nat.le_refl _) _⟩⟩
                case measure => simp [intOf]; omega
              · obtain rfl : k = M := by omega
                have hlt3' : ¬ (k : Int) < (k : Int) := by omega
                go_wp2
                go_roundw
                case rel => exact ⟨q + 1, by omega, by go_num, Lib.hid ⟨HZ.out.1.congr HEN.out, HZ.out.2⟩⟩
                case measure => simp [intOf]; omega
          · obtain rfl : q = L := by omega
            have hlt2' : ¬ (q : Int) < (q : Int) := by omega
            go_wp2
            go_meet
            exact ⟨rfl, HX⟩
      · rename_i hKK
        obtain ⟨rfl, HZ⟩ := hcut
        obtain rfl : cs.length = L := by omega
        refine hKK _ _ ?_
        exact PT_end a n c ps time w B hBw HP.out oa k2 od os HO.out va vc i LL hc hi hk HCL.out j hN1 hN2 HCR.out HOF.out HTM.out cs HSW.out nb wc (HT.out.step (by rw [HNB.out]; exact HZ.out.2)) HZ.out.1 _ _ _ _ _ _ _ _ _ _ _ _ _ _ _ _ _ _ _ _ _ _ _ _ _ _ _ _ _ _ _ _ _ _ _ _ _ _ _ _ _ _ _ _ _ _ _ _ _ _ _ _ _ _ _ _ _ _ _ _ _ _ _ _ _ _ _ _ _ _ _ _ _ _ _ _ _ _ _ _ _ _ _ _ _ _ _ _ _ _ _ _ _ _ _ _ _ _ _ _ _ _ _ _ _ _ _ _ _ _ _ _ _ _ _ _ _ _ _ _ _ _ _ _ _ _ _ _ _ _ _ _ _ _ _ _ _ _ _ _ _ _ _ _ _ _ _ _ _ _ _ _ _ _ _ _ _ _ _ _ _ _ _ _ _ _ _ _ _ _ _ _ _ _ _ _ _ _ _ _ _ _ _ _ _ _ _ _ _ _ _ _ _ _ _ _ _ _ _ _ _ _ _ _ _ _ _ _ _ _ _ _ _ _ _ _ _ _ _ _ _ _ _ _ _ _ _ _ _ _ _ _ _ _ _ _ _ _ _ _ _ _ _ _ _ _ _ _ _ _ _ _ _ _ _ _ _ _ _ _ _ _ _ _ _ _ _ _ _ _ _ _ _ _ _ _ _ _ _ _ _ _ _ _ _ _ _ _ _ _ _ _ _ _ _ _ _ _ _ _ _ _ _
end Go.Proofs.Ytgcepjminlapiaa
