/- The walk of the statement ImageMerges. -/
import Derived.Test.YtnfigielhnnpnaaDoorLawMg0
namespace Go.Proofs.YtnfigielhnnpnaaDoor
open Go.RowKit
set_option linter.unusedVariables false
set_option linter.unusedSimpArgs false
noncomputable def mgFrom (k : Nat) : Code := dropSeq k (Tryd.f3.body.getD .skip)
def mgPost (w : World) (e : Ending) (w' : World) : Prop := e = .returned (.bool true) ∧ Below w.heap.size w w'
set_option maxRecDepth 100000 in
set_option maxHeartbeats 4000000 in
theorem mg_A (a : Option Addr) (t c : Nat) (im : Nat → IM) (w : World) (h : IsIn a t im w) (hv : vB t im t = false) (W : World) (hb : Below w.heap.size w W) (u1 u2 u4 u5 u6 u7 u8 u9 u10 u11 u12 u13 u14 u15 u16 u17 u18 u19 u20 u21 u22 u23 u24 u25 u26 u27 u28 u29 u30 u31 u32 u33 u34 u35 u36 u37 u38 u39 u40 u41 u42 u43 u44 u45 u46 u47 u48 u49 u50 u51 u52 u53 u54 u55 u56 u57 u58 u59 u60 u61 u62 u63 u64 u65 u66 u67 u68 u69 u70 u71 u72 u73 u74 u75 u76 u77 u78 u79 u80 u81 u82 u83 u84 u85 u86 u87 u88 u89 u90 u91 u92 u93 u94 u95 u96 u97 u98 u99 u100 u101 u102 : Value) :
    (mgFrom 4).wp Tryd.prog (bodyPost Tryd.prog Tryd.f3 (mgPost w)) ⟨#[.slice a t c, u1, u2, .bool (vB t im t), u4, u5, u6, u7, u8, u9, u10, u11, u12, u13, u14, u15, u16, u17, u18, u19, u20, u21, u22, u23, u24, u25, u26, u27, u28, u29, u30, u31, u32, u33, u34, u35, u36, u37, u38, u39, u40, u41, u42, u43, u44, u45, u46, u47, u48, u49, u50, u51, u52, u53, u54, u55, u56, u57, u58, u59, u60, u61, u62, u63, u64, u65, u66, u67, u68, u69, u70, u71, u72, u73, u74, u75, u76, u77, u78, u79, u80, u81, u82, u83, u84, u85, u86, u87, u88, u89, u90, u91, u92, u93, u94, u95, u96, u97, u98, u99, u100, u101, u102], []⟩ W := by
  conv => arg 2; whnf
  have HKN := Lib.hid (fun (W : World) (hb : Below w.heap.size w W) => h.known hb)
  have HME := Lib.hid (fun (W : World) (hb : Below w.heap.size w W) => h.mergeE (c := c) (mgE_bad hv) (by decide) hb)
  have HB := Lib.hid hb
  generalize hres : mgPost w = RES; have HR := Lib.hid (fun (w' : World) (hb : Below w.heap.size w w') => show RES (.returned (.bool true)) w' from hres ▸ ⟨rfl, hb⟩); clear hres
  rw [hv]
  clear h hb hv
  go_upto_region 13 with ((go_at_call 8; refine (HME.out _ HB.out).mono ?_; rintro e w2 ⟨rfl, hb2⟩; have HBx := Lib.hid (HB.out.trans ((hb2).mono HB.out.size)); clear HB; have HB := HBx; clear HBx; clear hb2))
  (have HB2 := Lib.hid HB.out.size; obtain ⟨hVb, hVz, e1, e2⟩ := two_allocs w2 (.cells #[.slice none 0 0, .slice none 0 0] 28) (.cells #[.slice none 0 0, .slice none 0 0] 28); have HVB := Lib.hid hVb; have HBx := Lib.hid (HB.out.trans ((hVb).mono HB.out.size)); clear HB; have HB := HBx; clear HBx; generalize World.alloc (World.alloc w2 _) _ = V at *; have hqz : w2.heap.size < V.heap.size := (by omega); have hqz1 : w2.heap.size + 1 < V.heap.size := (by omega); have HE1 := Lib.hid e1; have HE2 := Lib.hid e2; clear hVb hVz e1 e2; have k0 : V.cell? ⟨w2.heap.size, 0, none⟩ = some (.slice none 0 0) := cell_of_row _ _ _ _ _ _ HE1.out; have k1 : V.cell? ⟨w2.heap.size, 1, none⟩ = some (.slice none 0 0) := cell_of_row _ _ _ _ _ _ HE1.out; have j0 : V.cell? ⟨w2.heap.size + 1, 0, none⟩ = some (.slice none 0 0) := cell_of_row _ _ _ _ _ _ HE2.out; have j1 : V.cell? ⟨w2.heap.size + 1, 1, none⟩ = some (.slice none 0 0) := cell_of_row _ _ _ _ _ _ HE2.out)
  go_wp2_with (first | (go_at_call 11; refine (sameImage_nil _).mono ?_; rintro e w4 ⟨rfl, hb4⟩; have HBx := Lib.hid (HB.out.trans ((hb4).mono HB.out.size)); clear HB; have HB := HBx; clear HBx; clear hb4) | (go_at_call 5; refine (HKN.out _ HB.out).mono ?_; rintro e w9 ⟨rfl, hb9⟩; have HBx := Lib.hid (HB.out.trans ((hb9).mono HB.out.size)); clear HB; have HB := HBx; clear HBx; clear hb9))
  exact HR.out _ HB.out
set_option maxRecDepth 100000 in
set_option maxHeartbeats 4000000 in
theorem mg_B7 (a : Option Addr) (t c : Nat) (im : Nat → IM) (w : World) (h : IsIn a t im w) (hv : vB t im t = true) (hok : mgOk (im 0).cn im t = false) (W : World) (hb : Below w.heap.size w W) (u1 u2 u4 u5 u6 u7 u8 u9 u10 u11 u12 u13 u14 u15 u16 u17 u18 u19 u20 u21 u22 u23 u24 u25 u26 u27 u28 u29 u30 u31 u32 u33 u34 u35 u36 u37 u38 u39 u40 u41 u42 u43 u44 u45 u46 u47 u48 u49 u50 u51 u52 u53 u54 u55 u56 u57 u58 u59 u60 u61 u62 u63 u64 u65 u66 u67 u68 u69 u70 u71 u72 u73 u74 u75 u76 u77 u78 u79 u80 u81 u82 u83 u84 u85 u86 u87 u88 u89 u90 u91 u92 u93 u94 u95 u96 u97 u98 u99 u100 u101 u102 : Value) :
    (mgFrom 4).wp Tryd.prog (bodyPost Tryd.prog Tryd.f3 (mgPost w)) ⟨#[.slice a t c, u1, u2, .bool (vB t im t), u4, u5, u6, u7, u8, u9, u10, u11, u12, u13, u14, u15, u16, u17, u18, u19, u20, u21, u22, u23, u24, u25, u26, u27, u28, u29, u30, u31, u32, u33, u34, u35, u36, u37, u38, u39, u40, u41, u42, u43, u44, u45, u46, u47, u48, u49, u50, u51, u52, u53, u54, u55, u56, u57, u58, u59, u60, u61, u62, u63, u64, u65, u66, u67, u68, u69, u70, u71, u72, u73, u74, u75, u76, u77, u78, u79, u80, u81, u82, u83, u84, u85, u86, u87, u88, u89, u90, u91, u92, u93, u94, u95, u96, u97, u98, u99, u100, u101, u102], []⟩ W := by
  conv => arg 2; whnf
  have HKN := Lib.hid (fun (W : World) (hb : Below w.heap.size w W) => h.known hb)
  have HME := Lib.hid (fun (W : World) (hb : Below w.heap.size w W) => h.mergeE (c := c) (E := 7) (by rw [mgE_good hv, if_pos hok]) (by decide) hb)
  have HRM := Lib.hid (fun (W : World) (hb : Below w.heap.size w W) => by
    have := h.rmerge (c := c) hv hb
    unfold R8Mg at this
    rw [hok] at this
    exact this)
  have HB := Lib.hid hb
  generalize hres : mgPost w = RES; have HR := Lib.hid (fun (w' : World) (hb : Below w.heap.size w w') => show RES (.returned (.bool true)) w' from hres ▸ ⟨rfl, hb⟩); clear hres
  rw [hv]
  clear h hb hv hok
  go_upto_region 13 with ((go_at_call 8; refine (HME.out _ HB.out).mono ?_; rintro e w2 ⟨rfl, hb2⟩; have HBx := Lib.hid (HB.out.trans ((hb2).mono HB.out.size)); clear HB; have HB := HBx; clear HBx; clear hb2))
  (have HB2 := Lib.hid HB.out.size; obtain ⟨hVb, hVz, e1, e2⟩ := two_allocs w2 (.cells #[.slice none 0 0, .slice none 0 0] 28) (.cells #[.slice none 0 0, .slice none 0 0] 28); have HVB := Lib.hid hVb; have HBx := Lib.hid (HB.out.trans ((hVb).mono HB.out.size)); clear HB; have HB := HBx; clear HBx; generalize World.alloc (World.alloc w2 _) _ = V at *; have hqz : w2.heap.size < V.heap.size := (by omega); have hqz1 : w2.heap.size + 1 < V.heap.size := (by omega); have HE1 := Lib.hid e1; have HE2 := Lib.hid e2; clear hVb hVz e1 e2; have k0 : V.cell? ⟨w2.heap.size, 0, none⟩ = some (.slice none 0 0) := cell_of_row _ _ _ _ _ _ HE1.out; have k1 : V.cell? ⟨w2.heap.size, 1, none⟩ = some (.slice none 0 0) := cell_of_row _ _ _ _ _ _ HE1.out; have j0 : V.cell? ⟨w2.heap.size + 1, 0, none⟩ = some (.slice none 0 0) := cell_of_row _ _ _ _ _ _ HE2.out; have j1 : V.cell? ⟨w2.heap.size + 1, 1, none⟩ = some (.slice none 0 0) := cell_of_row _ _ _ _ _ _ HE2.out)
  have HBQ := HB2
  generalize w2.heap.size = q at *
  (clear k0 k1 j0 j1; have HQ1 := Lib.hid hqz; have HQ2 := Lib.hid hqz1; go_upto_region 17 with ((go_at_call 9; refine (HRM.out _ HB.out).mono ?_; rintro e w3 ⟨hb3, cb', cap', oa', oc', L', rfl, hL', hf'⟩; have g1 := (hb3.block q hqz).trans HE1.out; have g2 := (hb3.block (q + 1) hqz1).trans HE2.out; have j0 : w3.cell? ⟨q + 1, 0, none⟩ = some (.slice none 0 0) := cell_of_row _ _ _ _ _ _ g2; have j1 : w3.cell? ⟨q + 1, 1, none⟩ = some (.slice none 0 0) := cell_of_row _ _ _ _ _ _ g2; have f0 : w3.frozen? ⟨q + 1, 0, none⟩ = false := frozen_of_row _ _ _ _ _ g2; have f1 : w3.frozen? ⟨q + 1, 1, none⟩ = false := frozen_of_row _ _ _ _ _ g2; have HG1 := Lib.hid g1; have HG2 := Lib.hid g2; clear g1 g2)); clear j0 j1 f0 f1; have hz3 := hb3.size; have HFX := Lib.hid (fun (W : World) (hb : Below ((w3.setCell ⟨q + 1, 0, none⟩ (.slice (some ⟨cb', 0, none⟩) (im 0).cn cap')).setCell ⟨q + 1, 1, none⟩ (.slice oa' L'.length oc')).heap.size ((w3.setCell ⟨q + 1, 0, none⟩ (.slice (some ⟨cb', 0, none⟩) (im 0).cn cap')).setCell ⟨q + 1, 1, none⟩ (.slice oa' L'.length oc')) W) => hf' W (by have := hb.size; simpa using this) (fun b h1 h2 => (hb.block b (by simpa using h2)).trans ((heap_setCell_other _ ⟨q + 1, 1, none⟩ b _ (by show b ≠ q + 1; omega)).trans (heap_setCell_other w3 ⟨q + 1, 0, none⟩ b _ (by show b ≠ q + 1; omega))))); have HO1 := Lib.hid ((heap_setCell_other (w3.setCell ⟨q + 1, 0, none⟩ (.slice (some ⟨cb', 0, none⟩) (im 0).cn cap')) ⟨q + 1, 1, none⟩ q (.slice oa' L'.length oc') (by show q ≠ q + 1; omega)).trans ((heap_setCell_other w3 ⟨q + 1, 0, none⟩ q (.slice (some ⟨cb', 0, none⟩) (im 0).cn cap') (by show q ≠ q + 1; omega)).trans HG1.out)); have HO2 := Lib.hid (heap_setCell_same _ (q + 1) 1 _ _ (.slice oa' L'.length oc') (heap_setCell_same w3 (q + 1) 0 _ _ (.slice (some ⟨cb', 0, none⟩) (im 0).cn cap') HG2.out)); have HBx := Lib.hid (((HB.out.trans (hb3.mono HB.out.size)).setCell (p := ⟨q + 1, 0, none⟩) (show w.heap.size ≤ q + 1 by have := HBQ.out; omega) (.slice (some ⟨cb', 0, none⟩) (im 0).cn cap')).setCell (p := ⟨q + 1, 1, none⟩) (show w.heap.size ≤ q + 1 by have := HBQ.out; omega) (.slice oa' L'.length oc')); have hzz : ((w3.setCell ⟨q + 1, 0, none⟩ (.slice (some ⟨cb', 0, none⟩) (im 0).cn cap')).setCell ⟨q + 1, 1, none⟩ (.slice oa' L'.length oc')).heap.size = w3.heap.size := (by simp); have hqz : q < ((w3.setCell ⟨q + 1, 0, none⟩ (.slice (some ⟨cb', 0, none⟩) (im 0).cn cap')).setCell ⟨q + 1, 1, none⟩ (.slice oa' L'.length oc')).heap.size := (by have := HQ1.out; omega); have hqz1 : q + 1 < ((w3.setCell ⟨q + 1, 0, none⟩ (.slice (some ⟨cb', 0, none⟩) (im 0).cn cap')).setCell ⟨q + 1, 1, none⟩ (.slice oa' L'.length oc')).heap.size := (by have := HQ2.out; omega); have HZZ := Lib.hid hzz; have HB24 := Lib.hid (((HVB.out.trans (hb3.mono (Nat.le_of_lt HQ1.out))).setCell (p := ⟨q + 1, 0, none⟩) (show q ≤ q + 1 by omega) (.slice (some ⟨cb', 0, none⟩) (im 0).cn cap')).setCell (p := ⟨q + 1, 1, none⟩) (show q ≤ q + 1 by omega) (.slice oa' L'.length oc')); clear hzz hf' HE1 HE2 HG1 HG2 HB; have HB := HBx; clear HBx; generalize World.setCell (World.setCell w3 _ _) _ _ = W4 at *; have HBW := Lib.hid (Below.refl W4.heap.size W4); have HQ4 := Lib.hid (Nat.le_of_lt hqz); have k0 := cell_of_row _ _ 0 _ _ _ HO1.out; have k1 := cell_of_row _ _ 1 _ _ _ HO1.out; have j0 := cell_of_row _ _ 0 _ _ _ HO2.out; have j1 := cell_of_row _ _ 1 _ _ _ HO2.out)
  go_wp2_with (first | (go_at_call 11; refine (sameImage_nil _).mono ?_; rintro e w4 ⟨rfl, hb4⟩; have HBx := Lib.hid (HB.out.trans ((hb4).mono HB.out.size)); clear HB; have HB := HBx; clear HBx; clear hb4) | (go_at_call 5; refine (HKN.out _ HB.out).mono ?_; rintro e w9 ⟨rfl, hb9⟩; have HBx := Lib.hid (HB.out.trans ((hb9).mono HB.out.size)); clear HB; have HB := HBx; clear HBx; clear hb9))
  exact HR.out _ HB.out
set_option maxRecDepth 100000 in
set_option maxHeartbeats 4000000 in
theorem mg_B3a (a : Option Addr) (t c : Nat) (im : Nat → IM) (w : World) (h : IsIn a t im w) (hv : vB t im t = true) (hok : mgOk (im 0).cn im t = true) (h20 : 20 < (mgB im t).length) (W : World) (hb : Below w.heap.size w W) (u1 u2 u4 u5 u6 u7 u8 u9 u10 u11 u12 u13 u14 u15 u16 u17 u18 u19 u20 u21 u22 u23 u24 u25 u26 u27 u28 u29 u30 u31 u32 u33 u34 u35 u36 u37 u38 u39 u40 u41 u42 u43 u44 u45 u46 u47 u48 u49 u50 u51 u52 u53 u54 u55 u56 u57 u58 u59 u60 u61 u62 u63 u64 u65 u66 u67 u68 u69 u70 u71 u72 u73 u74 u75 u76 u77 u78 u79 u80 u81 u82 u83 u84 u85 u86 u87 u88 u89 u90 u91 u92 u93 u94 u95 u96 u97 u98 u99 u100 u101 u102 : Value) :
    (mgFrom 4).wp Tryd.prog (bodyPost Tryd.prog Tryd.f3 (mgPost w)) ⟨#[.slice a t c, u1, u2, .bool (vB t im t), u4, u5, u6, u7, u8, u9, u10, u11, u12, u13, u14, u15, u16, u17, u18, u19, u20, u21, u22, u23, u24, u25, u26, u27, u28, u29, u30, u31, u32, u33, u34, u35, u36, u37, u38, u39, u40, u41, u42, u43, u44, u45, u46, u47, u48, u49, u50, u51, u52, u53, u54, u55, u56, u57, u58, u59, u60, u61, u62, u63, u64, u65, u66, u67, u68, u69, u70, u71, u72, u73, u74, u75, u76, u77, u78, u79, u80, u81, u82, u83, u84, u85, u86, u87, u88, u89, u90, u91, u92, u93, u94, u95, u96, u97, u98, u99, u100, u101, u102], []⟩ W := by
  conv => arg 2; whnf
  have HKN := Lib.hid (fun (W : World) (hb : Below w.heap.size w W) => h.known hb)
  have HME := Lib.hid (fun (W : World) (hb : Below w.heap.size w W) => h.mergeE (c := c) (E := 3) (by rw [mgE_good hv, if_neg (by rw [hok]; decide), if_pos (.inl h20)]) (by decide) hb)
  have HRM := Lib.hid (fun (W : World) (hb : Below w.heap.size w W) => by
    have := h.rmerge (c := c) hv hb
    unfold R8Mg at this
    rw [hok] at this
    exact this)
  have HB := Lib.hid hb
  generalize hres : mgPost w = RES; have HR := Lib.hid (fun (w' : World) (hb : Below w.heap.size w w') => show RES (.returned (.bool true)) w' from hres ▸ ⟨rfl, hb⟩); clear hres
  rw [hv]
  clear h hb hv hok
  go_upto_region 13 with ((go_at_call 8; refine (HME.out _ HB.out).mono ?_; rintro e w2 ⟨rfl, hb2⟩; have HBx := Lib.hid (HB.out.trans ((hb2).mono HB.out.size)); clear HB; have HB := HBx; clear HBx; clear hb2))
  (have HB2 := Lib.hid HB.out.size; obtain ⟨hVb, hVz, e1, e2⟩ := two_allocs w2 (.cells #[.slice none 0 0, .slice none 0 0] 28) (.cells #[.slice none 0 0, .slice none 0 0] 28); have HVB := Lib.hid hVb; have HBx := Lib.hid (HB.out.trans ((hVb).mono HB.out.size)); clear HB; have HB := HBx; clear HBx; generalize World.alloc (World.alloc w2 _) _ = V at *; have hqz : w2.heap.size < V.heap.size := (by omega); have hqz1 : w2.heap.size + 1 < V.heap.size := (by omega); have HE1 := Lib.hid e1; have HE2 := Lib.hid e2; clear hVb hVz e1 e2; have k0 : V.cell? ⟨w2.heap.size, 0, none⟩ = some (.slice none 0 0) := cell_of_row _ _ _ _ _ _ HE1.out; have k1 : V.cell? ⟨w2.heap.size, 1, none⟩ = some (.slice none 0 0) := cell_of_row _ _ _ _ _ _ HE1.out; have j0 : V.cell? ⟨w2.heap.size + 1, 0, none⟩ = some (.slice none 0 0) := cell_of_row _ _ _ _ _ _ HE2.out; have j1 : V.cell? ⟨w2.heap.size + 1, 1, none⟩ = some (.slice none 0 0) := cell_of_row _ _ _ _ _ _ HE2.out)
  have HBQ := HB2
  generalize w2.heap.size = q at *
  (clear k0 k1 j0 j1; have HQ1 := Lib.hid hqz; have HQ2 := Lib.hid hqz1; go_upto_region 17 with ((go_at_call 9; refine (HRM.out _ HB.out).mono ?_; rintro e w3 ⟨hb3, cb', cap', oa', oc', L', rfl, hL', hf'⟩; have g1 := (hb3.block q hqz).trans HE1.out; have g2 := (hb3.block (q + 1) hqz1).trans HE2.out; have j0 : w3.cell? ⟨q + 1, 0, none⟩ = some (.slice none 0 0) := cell_of_row _ _ _ _ _ _ g2; have j1 : w3.cell? ⟨q + 1, 1, none⟩ = some (.slice none 0 0) := cell_of_row _ _ _ _ _ _ g2; have f0 : w3.frozen? ⟨q + 1, 0, none⟩ = false := frozen_of_row _ _ _ _ _ g2; have f1 : w3.frozen? ⟨q + 1, 1, none⟩ = false := frozen_of_row _ _ _ _ _ g2; have HG1 := Lib.hid g1; have HG2 := Lib.hid g2; clear g1 g2)); clear j0 j1 f0 f1; have hz3 := hb3.size; have HFX := Lib.hid (fun (W : World) (hb : Below ((w3.setCell ⟨q + 1, 0, none⟩ (.slice (some ⟨cb', 0, none⟩) (im 0).cn cap')).setCell ⟨q + 1, 1, none⟩ (.slice oa' L'.length oc')).heap.size ((w3.setCell ⟨q + 1, 0, none⟩ (.slice (some ⟨cb', 0, none⟩) (im 0).cn cap')).setCell ⟨q + 1, 1, none⟩ (.slice oa' L'.length oc')) W) => hf' W (by have := hb.size; simpa using this) (fun b h1 h2 => (hb.block b (by simpa using h2)).trans ((heap_setCell_other _ ⟨q + 1, 1, none⟩ b _ (by show b ≠ q + 1; omega)).trans (heap_setCell_other w3 ⟨q + 1, 0, none⟩ b _ (by show b ≠ q + 1; omega))))); have HO1 := Lib.hid ((heap_setCell_other (w3.setCell ⟨q + 1, 0, none⟩ (.slice (some ⟨cb', 0, none⟩) (im 0).cn cap')) ⟨q + 1, 1, none⟩ q (.slice oa' L'.length oc') (by show q ≠ q + 1; omega)).trans ((heap_setCell_other w3 ⟨q + 1, 0, none⟩ q (.slice (some ⟨cb', 0, none⟩) (im 0).cn cap') (by show q ≠ q + 1; omega)).trans HG1.out)); have HO2 := Lib.hid (heap_setCell_same _ (q + 1) 1 _ _ (.slice oa' L'.length oc') (heap_setCell_same w3 (q + 1) 0 _ _ (.slice (some ⟨cb', 0, none⟩) (im 0).cn cap') HG2.out)); have HBx := Lib.hid (((HB.out.trans (hb3.mono HB.out.size)).setCell (p := ⟨q + 1, 0, none⟩) (show w.heap.size ≤ q + 1 by have := HBQ.out; omega) (.slice (some ⟨cb', 0, none⟩) (im 0).cn cap')).setCell (p := ⟨q + 1, 1, none⟩) (show w.heap.size ≤ q + 1 by have := HBQ.out; omega) (.slice oa' L'.length oc')); have hzz : ((w3.setCell ⟨q + 1, 0, none⟩ (.slice (some ⟨cb', 0, none⟩) (im 0).cn cap')).setCell ⟨q + 1, 1, none⟩ (.slice oa' L'.length oc')).heap.size = w3.heap.size := (by simp); have hqz : q < ((w3.setCell ⟨q + 1, 0, none⟩ (.slice (some ⟨cb', 0, none⟩) (im 0).cn cap')).setCell ⟨q + 1, 1, none⟩ (.slice oa' L'.length oc')).heap.size := (by have := HQ1.out; omega); have hqz1 : q + 1 < ((w3.setCell ⟨q + 1, 0, none⟩ (.slice (some ⟨cb', 0, none⟩) (im 0).cn cap')).setCell ⟨q + 1, 1, none⟩ (.slice oa' L'.length oc')).heap.size := (by have := HQ2.out; omega); have HZZ := Lib.hid hzz; have HB24 := Lib.hid (((HVB.out.trans (hb3.mono (Nat.le_of_lt HQ1.out))).setCell (p := ⟨q + 1, 0, none⟩) (show q ≤ q + 1 by omega) (.slice (some ⟨cb', 0, none⟩) (im 0).cn cap')).setCell (p := ⟨q + 1, 1, none⟩) (show q ≤ q + 1 by omega) (.slice oa' L'.length oc')); clear hzz hf' HE1 HE2 HG1 HG2 HB; have HB := HBx; clear HBx; generalize World.setCell (World.setCell w3 _ _) _ _ = W4 at *; have HBW := Lib.hid (Below.refl W4.heap.size W4); have HQ4 := Lib.hid (Nat.le_of_lt hqz); have k0 := cell_of_row _ _ 0 _ _ _ HO1.out; have k1 := cell_of_row _ _ 1 _ _ _ HO1.out; have j0 := cell_of_row _ _ 0 _ _ _ HO2.out; have j1 := cell_of_row _ _ 1 _ _ _ HO2.out)
  have hl20 : (20 : Int) < (L'.length : Int) := by rw [strip_len hL']; omega
  go_wp2_with (first | (go_at_call 11; refine (sameImage_nil _).mono ?_; rintro e w4 ⟨rfl, hb4⟩; have HBx := Lib.hid (HB.out.trans ((hb4).mono HB.out.size)); clear HB; have HB := HBx; clear HBx; clear hb4) | (go_at_call 5; refine (HKN.out _ HB.out).mono ?_; rintro e w9 ⟨rfl, hb9⟩; have HBx := Lib.hid (HB.out.trans ((hb9).mono HB.out.size)); clear HB; have HB := HBx; clear HBx; clear hb9))
  exact HR.out _ HB.out
set_option maxRecDepth 100000 in
set_option maxHeartbeats 4000000 in
theorem mg_B3b (a : Option Addr) (t c : Nat) (im : Nat → IM) (w : World) (h : IsIn a t im w) (hv : vB t im t = true) (hok : mgOk (im 0).cn im t = true) (h20 : ¬ 20 < (mgB im t).length) (hl : longB (im 0).cn (mgC im t) 200000 = true) (W : World) (hb : Below w.heap.size w W) (u1 u2 u4 u5 u6 u7 u8 u9 u10 u11 u12 u13 u14 u15 u16 u17 u18 u19 u20 u21 u22 u23 u24 u25 u26 u27 u28 u29 u30 u31 u32 u33 u34 u35 u36 u37 u38 u39 u40 u41 u42 u43 u44 u45 u46 u47 u48 u49 u50 u51 u52 u53 u54 u55 u56 u57 u58 u59 u60 u61 u62 u63 u64 u65 u66 u67 u68 u69 u70 u71 u72 u73 u74 u75 u76 u77 u78 u79 u80 u81 u82 u83 u84 u85 u86 u87 u88 u89 u90 u91 u92 u93 u94 u95 u96 u97 u98 u99 u100 u101 u102 : Value) :
    (mgFrom 4).wp Tryd.prog (bodyPost Tryd.prog Tryd.f3 (mgPost w)) ⟨#[.slice a t c, u1, u2, .bool (vB t im t), u4, u5, u6, u7, u8, u9, u10, u11, u12, u13, u14, u15, u16, u17, u18, u19, u20, u21, u22, u23, u24, u25, u26, u27, u28, u29, u30, u31, u32, u33, u34, u35, u36, u37, u38, u39, u40, u41, u42, u43, u44, u45, u46, u47, u48, u49, u50, u51, u52, u53, u54, u55, u56, u57, u58, u59, u60, u61, u62, u63, u64, u65, u66, u67, u68, u69, u70, u71, u72, u73, u74, u75, u76, u77, u78, u79, u80, u81, u82, u83, u84, u85, u86, u87, u88, u89, u90, u91, u92, u93, u94, u95, u96, u97, u98, u99, u100, u101, u102], []⟩ W := by
  conv => arg 2; whnf
  have HKN := Lib.hid (fun (W : World) (hb : Below w.heap.size w W) => h.known hb)
  have HME := Lib.hid (fun (W : World) (hb : Below w.heap.size w W) => h.mergeE (c := c) (E := 3) (by rw [mgE_good hv, if_neg (by rw [hok]; decide), if_pos (.inr hl)]) (by decide) hb)
  have HRM := Lib.hid (fun (W : World) (hb : Below w.heap.size w W) => by
    have := h.rmerge (c := c) hv hb
    unfold R8Mg at this
    rw [hok] at this
    exact this)
  have HFD := Lib.hid (fun (W : World) (cb cap : Nat) (oa : Option Addr) (L oc : Nat) (hS : Spans W.heap.size W (some ⟨cb, 0, none⟩) (im 0).cn (mgC im t)) => show Calls Tryd.prog 10 #[.agg #[.slice (some ⟨cb, 0, none⟩) (im 0).cn cap, .slice oa L oc]] W (fun e w' => e = .returned (.int .i64 (min (prodN (mgC im t) (im 0).cn) 200001)) ∧ Below W.heap.size W w') from r8Fields_any _ _ _ _ _ _ _ W W.heap.size (Nat.le_refl _) hS (mg_cells hv hok))
  have hmin : 200000 < min (prodN (mgC im t) (im 0).cn) 200001 := by have := of_decide_eq_true hl; omega
  have HB := Lib.hid hb
  generalize hres : mgPost w = RES; have HR := Lib.hid (fun (w' : World) (hb : Below w.heap.size w w') => show RES (.returned (.bool true)) w' from hres ▸ ⟨rfl, hb⟩); clear hres
  rw [hv]
  clear h hb hv hok hl
  go_upto_region 13 with ((go_at_call 8; refine (HME.out _ HB.out).mono ?_; rintro e w2 ⟨rfl, hb2⟩; have HBx := Lib.hid (HB.out.trans ((hb2).mono HB.out.size)); clear HB; have HB := HBx; clear HBx; clear hb2))
  (have HB2 := Lib.hid HB.out.size; obtain ⟨hVb, hVz, e1, e2⟩ := two_allocs w2 (.cells #[.slice none 0 0, .slice none 0 0] 28) (.cells #[.slice none 0 0, .slice none 0 0] 28); have HVB := Lib.hid hVb; have HBx := Lib.hid (HB.out.trans ((hVb).mono HB.out.size)); clear HB; have HB := HBx; clear HBx; generalize World.alloc (World.alloc w2 _) _ = V at *; have hqz : w2.heap.size < V.heap.size := (by omega); have hqz1 : w2.heap.size + 1 < V.heap.size := (by omega); have HE1 := Lib.hid e1; have HE2 := Lib.hid e2; clear hVb hVz e1 e2; have k0 : V.cell? ⟨w2.heap.size, 0, none⟩ = some (.slice none 0 0) := cell_of_row _ _ _ _ _ _ HE1.out; have k1 : V.cell? ⟨w2.heap.size, 1, none⟩ = some (.slice none 0 0) := cell_of_row _ _ _ _ _ _ HE1.out; have j0 : V.cell? ⟨w2.heap.size + 1, 0, none⟩ = some (.slice none 0 0) := cell_of_row _ _ _ _ _ _ HE2.out; have j1 : V.cell? ⟨w2.heap.size + 1, 1, none⟩ = some (.slice none 0 0) := cell_of_row _ _ _ _ _ _ HE2.out)
  have HBQ := HB2
  generalize w2.heap.size = q at *
  (clear k0 k1 j0 j1; have HQ1 := Lib.hid hqz; have HQ2 := Lib.hid hqz1; go_upto_region 17 with ((go_at_call 9; refine (HRM.out _ HB.out).mono ?_; rintro e w3 ⟨hb3, cb', cap', oa', oc', L', rfl, hL', hf'⟩; have g1 := (hb3.block q hqz).trans HE1.out; have g2 := (hb3.block (q + 1) hqz1).trans HE2.out; have j0 : w3.cell? ⟨q + 1, 0, none⟩ = some (.slice none 0 0) := cell_of_row _ _ _ _ _ _ g2; have j1 : w3.cell? ⟨q + 1, 1, none⟩ = some (.slice none 0 0) := cell_of_row _ _ _ _ _ _ g2; have f0 : w3.frozen? ⟨q + 1, 0, none⟩ = false := frozen_of_row _ _ _ _ _ g2; have f1 : w3.frozen? ⟨q + 1, 1, none⟩ = false := frozen_of_row _ _ _ _ _ g2; have HG1 := Lib.hid g1; have HG2 := Lib.hid g2; clear g1 g2)); clear j0 j1 f0 f1; have hz3 := hb3.size; have HFX := Lib.hid (fun (W : World) (hb : Below ((w3.setCell ⟨q + 1, 0, none⟩ (.slice (some ⟨cb', 0, none⟩) (im 0).cn cap')).setCell ⟨q + 1, 1, none⟩ (.slice oa' L'.length oc')).heap.size ((w3.setCell ⟨q + 1, 0, none⟩ (.slice (some ⟨cb', 0, none⟩) (im 0).cn cap')).setCell ⟨q + 1, 1, none⟩ (.slice oa' L'.length oc')) W) => hf' W (by have := hb.size; simpa using this) (fun b h1 h2 => (hb.block b (by simpa using h2)).trans ((heap_setCell_other _ ⟨q + 1, 1, none⟩ b _ (by show b ≠ q + 1; omega)).trans (heap_setCell_other w3 ⟨q + 1, 0, none⟩ b _ (by show b ≠ q + 1; omega))))); have HO1 := Lib.hid ((heap_setCell_other (w3.setCell ⟨q + 1, 0, none⟩ (.slice (some ⟨cb', 0, none⟩) (im 0).cn cap')) ⟨q + 1, 1, none⟩ q (.slice oa' L'.length oc') (by show q ≠ q + 1; omega)).trans ((heap_setCell_other w3 ⟨q + 1, 0, none⟩ q (.slice (some ⟨cb', 0, none⟩) (im 0).cn cap') (by show q ≠ q + 1; omega)).trans HG1.out)); have HO2 := Lib.hid (heap_setCell_same _ (q + 1) 1 _ _ (.slice oa' L'.length oc') (heap_setCell_same w3 (q + 1) 0 _ _ (.slice (some ⟨cb', 0, none⟩) (im 0).cn cap') HG2.out)); have HBx := Lib.hid (((HB.out.trans (hb3.mono HB.out.size)).setCell (p := ⟨q + 1, 0, none⟩) (show w.heap.size ≤ q + 1 by have := HBQ.out; omega) (.slice (some ⟨cb', 0, none⟩) (im 0).cn cap')).setCell (p := ⟨q + 1, 1, none⟩) (show w.heap.size ≤ q + 1 by have := HBQ.out; omega) (.slice oa' L'.length oc')); have hzz : ((w3.setCell ⟨q + 1, 0, none⟩ (.slice (some ⟨cb', 0, none⟩) (im 0).cn cap')).setCell ⟨q + 1, 1, none⟩ (.slice oa' L'.length oc')).heap.size = w3.heap.size := (by simp); have hqz : q < ((w3.setCell ⟨q + 1, 0, none⟩ (.slice (some ⟨cb', 0, none⟩) (im 0).cn cap')).setCell ⟨q + 1, 1, none⟩ (.slice oa' L'.length oc')).heap.size := (by have := HQ1.out; omega); have hqz1 : q + 1 < ((w3.setCell ⟨q + 1, 0, none⟩ (.slice (some ⟨cb', 0, none⟩) (im 0).cn cap')).setCell ⟨q + 1, 1, none⟩ (.slice oa' L'.length oc')).heap.size := (by have := HQ2.out; omega); have HZZ := Lib.hid hzz; have HB24 := Lib.hid (((HVB.out.trans (hb3.mono (Nat.le_of_lt HQ1.out))).setCell (p := ⟨q + 1, 0, none⟩) (show q ≤ q + 1 by omega) (.slice (some ⟨cb', 0, none⟩) (im 0).cn cap')).setCell (p := ⟨q + 1, 1, none⟩) (show q ≤ q + 1 by omega) (.slice oa' L'.length oc')); clear hzz hf' HE1 HE2 HG1 HG2 HB; have HB := HBx; clear HBx; generalize World.setCell (World.setCell w3 _ _) _ _ = W4 at *; have HBW := Lib.hid (Below.refl W4.heap.size W4); have HQ4 := Lib.hid (Nat.le_of_lt hqz); have k0 := cell_of_row _ _ 0 _ _ _ HO1.out; have k1 := cell_of_row _ _ 1 _ _ _ HO1.out; have j0 := cell_of_row _ _ 0 _ _ _ HO2.out; have j1 := cell_of_row _ _ 1 _ _ _ HO2.out)
  have hl20 : ¬ (20 : Int) < (L'.length : Int) := by rw [strip_len hL']; omega
  generalize min (prodN (mgC im t) (im 0).cn) 200001 = FN at *
  go_wp2_with (first | (go_at_call 10; refine (HFD.out _ _ _ _ _ _ (HFX.out _ (HBW.out)).1).mono ?_; rintro e w5 ⟨rfl, hb5⟩; (have HBx := Lib.hid (HB.out.trans ((hb5).mono HB.out.size)); have k0x := ((bcell hb5).1 q 0 hqz).trans k0; have k1x := ((bcell hb5).1 q 1 hqz).trans k1; have j0x := ((bcell hb5).1 (q + 1) 0 hqz1).trans j0; have j1x := ((bcell hb5).1 (q + 1) 1 hqz1).trans j1; have hqx := Nat.lt_of_lt_of_le hqz (hb5).size; have hqx1 := Nat.lt_of_lt_of_le hqz1 (hb5).size; clear HB k0 k1 j0 j1 hqz hqz1; have HB := HBx; have k0 := k0x; have k1 := k1x; have j0 := j0x; have j1 := j1x; have hqz := hqx; have hqz1 := hqx1; clear HBx k0x k1x j0x j1x hqx hqx1); have HBWx := Lib.hid (HBW.out.trans (hb5.mono HBW.out.size)); clear HBW hb5; have HBW := HBWx; clear HBWx) | (go_at_call 11; refine (sameImage_nil _).mono ?_; rintro e w4 ⟨rfl, hb4⟩; have HBx := Lib.hid (HB.out.trans ((hb4).mono HB.out.size)); clear HB; have HB := HBx; clear HBx; clear hb4) | (go_at_call 5; refine (HKN.out _ HB.out).mono ?_; rintro e w9 ⟨rfl, hb9⟩; have HBx := Lib.hid (HB.out.trans ((hb9).mono HB.out.size)); clear HB; have HB := HBx; clear HBx; clear hb9))
  exact HR.out _ HB.out
set_option maxRecDepth 100000 in
set_option maxHeartbeats 4000000 in
theorem mg_B0 (a : Option Addr) (t c : Nat) (im : Nat → IM) (w : World) (h : IsIn a t im w) (hv : vB t im t = true) (hok : mgOk (im 0).cn im t = true) (h20 : ¬ 20 < (mgB im t).length) (hl : longB (im 0).cn (mgC im t) 200000 = false) (W : World) (hb : Below w.heap.size w W) (u1 u2 u4 u5 u6 u7 u8 u9 u10 u11 u12 u13 u14 u15 u16 u17 u18 u19 u20 u21 u22 u23 u24 u25 u26 u27 u28 u29 u30 u31 u32 u33 u34 u35 u36 u37 u38 u39 u40 u41 u42 u43 u44 u45 u46 u47 u48 u49 u50 u51 u52 u53 u54 u55 u56 u57 u58 u59 u60 u61 u62 u63 u64 u65 u66 u67 u68 u69 u70 u71 u72 u73 u74 u75 u76 u77 u78 u79 u80 u81 u82 u83 u84 u85 u86 u87 u88 u89 u90 u91 u92 u93 u94 u95 u96 u97 u98 u99 u100 u101 u102 : Value) :
    (mgFrom 4).wp Tryd.prog (bodyPost Tryd.prog Tryd.f3 (mgPost w)) ⟨#[.slice a t c, u1, u2, .bool (vB t im t), u4, u5, u6, u7, u8, u9, u10, u11, u12, u13, u14, u15, u16, u17, u18, u19, u20, u21, u22, u23, u24, u25, u26, u27, u28, u29, u30, u31, u32, u33, u34, u35, u36, u37, u38, u39, u40, u41, u42, u43, u44, u45, u46, u47, u48, u49, u50, u51, u52, u53, u54, u55, u56, u57, u58, u59, u60, u61, u62, u63, u64, u65, u66, u67, u68, u69, u70, u71, u72, u73, u74, u75, u76, u77, u78, u79, u80, u81, u82, u83, u84, u85, u86, u87, u88, u89, u90, u91, u92, u93, u94, u95, u96, u97, u98, u99, u100, u101, u102], []⟩ W := by
  conv => arg 2; whnf
  have HKN := Lib.hid (fun (W : World) (hb : Below w.heap.size w W) => h.known hb)
  have HME := Lib.hid (fun (W : World) (hb : Below w.heap.size w W) => h.mergeO (c := c) (by rw [mgE_good hv, if_neg (by rw [hok]; decide), if_neg (by rw [hl]; simp; omega)]) hb)
  have HRM := Lib.hid (fun (W : World) (hb : Below w.heap.size w W) => by
    have := h.rmerge (c := c) hv hb
    unfold R8Mg at this
    rw [hok] at this
    exact this)
  have HFD := Lib.hid (fun (W : World) (cb cap : Nat) (oa : Option Addr) (L oc : Nat) (hS : Spans W.heap.size W (some ⟨cb, 0, none⟩) (im 0).cn (mgC im t)) => show Calls Tryd.prog 10 #[.agg #[.slice (some ⟨cb, 0, none⟩) (im 0).cn cap, .slice oa L oc]] W (fun e w' => e = .returned (.int .i64 (min (prodN (mgC im t) (im 0).cn) 200001)) ∧ Below W.heap.size W w') from r8Fields_any _ _ _ _ _ _ _ W W.heap.size (Nat.le_refl _) hS (mg_cells hv hok))
  have hmin : ¬ 200000 < min (prodN (mgC im t) (im 0).cn) 200001 := by have := of_decide_eq_false hl; omega
  have HB := Lib.hid hb
  generalize hres : mgPost w = RES; have HR := Lib.hid (fun (w' : World) (hb : Below w.heap.size w w') => show RES (.returned (.bool true)) w' from hres ▸ ⟨rfl, hb⟩); clear hres
  rw [hv]
  clear h hb hv hok hl
  go_upto_region 13 with ((go_at_call 8; refine (HME.out _ HB.out).mono ?_; rintro e w2 ⟨cb, cap, oa, oc, L, rfl, hL, hf, hb2⟩; have HBx := Lib.hid (HB.out.trans ((hb2).mono HB.out.size)); clear HB; have HB := HBx; clear HBx; clear hb2))
  (have HB2 := Lib.hid HB.out.size; obtain ⟨hVb, hVz, e1, e2⟩ := two_allocs w2 (.cells #[.slice (some ⟨cb, 0, none⟩) (im 0).cn cap, .slice oa L.length oc] 28) (.cells #[.slice none 0 0, .slice none 0 0] 28); have HVB := Lib.hid hVb; have HBx := Lib.hid (HB.out.trans ((hVb).mono HB.out.size)); clear HB; have HB := HBx; clear HBx; generalize World.alloc (World.alloc w2 _) _ = V at *; have hqz : w2.heap.size < V.heap.size := (by omega); have hqz1 : w2.heap.size + 1 < V.heap.size := (by omega); have HE1 := Lib.hid e1; have HE2 := Lib.hid e2; clear hVb hVz e1 e2; have k0 : V.cell? ⟨w2.heap.size, 0, none⟩ = some (.slice (some ⟨cb, 0, none⟩) (im 0).cn cap) := cell_of_row _ _ _ _ _ _ HE1.out; have k1 : V.cell? ⟨w2.heap.size, 1, none⟩ = some (.slice oa L.length oc) := cell_of_row _ _ _ _ _ _ HE1.out; have j0 : V.cell? ⟨w2.heap.size + 1, 0, none⟩ = some (.slice none 0 0) := cell_of_row _ _ _ _ _ _ HE2.out; have j1 : V.cell? ⟨w2.heap.size + 1, 1, none⟩ = some (.slice none 0 0) := cell_of_row _ _ _ _ _ _ HE2.out)
  have HBQ := HB2
  have HFY := Lib.hid (fun (W : World) (hb : Below w2.heap.size w2 W) => hf.below hb)
  generalize w2.heap.size = q at *
  (clear k0 k1 j0 j1; have HQ1 := Lib.hid hqz; have HQ2 := Lib.hid hqz1; go_upto_region 17 with ((go_at_call 9; refine (HRM.out _ HB.out).mono ?_; rintro e w3 ⟨hb3, cb', cap', oa', oc', L', rfl, hL', hf'⟩; have g1 := (hb3.block q hqz).trans HE1.out; have g2 := (hb3.block (q + 1) hqz1).trans HE2.out; have j0 : w3.cell? ⟨q + 1, 0, none⟩ = some (.slice none 0 0) := cell_of_row _ _ _ _ _ _ g2; have j1 : w3.cell? ⟨q + 1, 1, none⟩ = some (.slice none 0 0) := cell_of_row _ _ _ _ _ _ g2; have f0 : w3.frozen? ⟨q + 1, 0, none⟩ = false := frozen_of_row _ _ _ _ _ g2; have f1 : w3.frozen? ⟨q + 1, 1, none⟩ = false := frozen_of_row _ _ _ _ _ g2; have HG1 := Lib.hid g1; have HG2 := Lib.hid g2; clear g1 g2)); clear j0 j1 f0 f1; have hz3 := hb3.size; have HFX := Lib.hid (fun (W : World) (hb : Below ((w3.setCell ⟨q + 1, 0, none⟩ (.slice (some ⟨cb', 0, none⟩) (im 0).cn cap')).setCell ⟨q + 1, 1, none⟩ (.slice oa' L'.length oc')).heap.size ((w3.setCell ⟨q + 1, 0, none⟩ (.slice (some ⟨cb', 0, none⟩) (im 0).cn cap')).setCell ⟨q + 1, 1, none⟩ (.slice oa' L'.length oc')) W) => hf' W (by have := hb.size; simpa using this) (fun b h1 h2 => (hb.block b (by simpa using h2)).trans ((heap_setCell_other _ ⟨q + 1, 1, none⟩ b _ (by show b ≠ q + 1; omega)).trans (heap_setCell_other w3 ⟨q + 1, 0, none⟩ b _ (by show b ≠ q + 1; omega))))); have HO1 := Lib.hid ((heap_setCell_other (w3.setCell ⟨q + 1, 0, none⟩ (.slice (some ⟨cb', 0, none⟩) (im 0).cn cap')) ⟨q + 1, 1, none⟩ q (.slice oa' L'.length oc') (by show q ≠ q + 1; omega)).trans ((heap_setCell_other w3 ⟨q + 1, 0, none⟩ q (.slice (some ⟨cb', 0, none⟩) (im 0).cn cap') (by show q ≠ q + 1; omega)).trans HG1.out)); have HO2 := Lib.hid (heap_setCell_same _ (q + 1) 1 _ _ (.slice oa' L'.length oc') (heap_setCell_same w3 (q + 1) 0 _ _ (.slice (some ⟨cb', 0, none⟩) (im 0).cn cap') HG2.out)); have HBx := Lib.hid (((HB.out.trans (hb3.mono HB.out.size)).setCell (p := ⟨q + 1, 0, none⟩) (show w.heap.size ≤ q + 1 by have := HBQ.out; omega) (.slice (some ⟨cb', 0, none⟩) (im 0).cn cap')).setCell (p := ⟨q + 1, 1, none⟩) (show w.heap.size ≤ q + 1 by have := HBQ.out; omega) (.slice oa' L'.length oc')); have hzz : ((w3.setCell ⟨q + 1, 0, none⟩ (.slice (some ⟨cb', 0, none⟩) (im 0).cn cap')).setCell ⟨q + 1, 1, none⟩ (.slice oa' L'.length oc')).heap.size = w3.heap.size := (by simp); have hqz : q < ((w3.setCell ⟨q + 1, 0, none⟩ (.slice (some ⟨cb', 0, none⟩) (im 0).cn cap')).setCell ⟨q + 1, 1, none⟩ (.slice oa' L'.length oc')).heap.size := (by have := HQ1.out; omega); have hqz1 : q + 1 < ((w3.setCell ⟨q + 1, 0, none⟩ (.slice (some ⟨cb', 0, none⟩) (im 0).cn cap')).setCell ⟨q + 1, 1, none⟩ (.slice oa' L'.length oc')).heap.size := (by have := HQ2.out; omega); have HZZ := Lib.hid hzz; have HB24 := Lib.hid (((HVB.out.trans (hb3.mono (Nat.le_of_lt HQ1.out))).setCell (p := ⟨q + 1, 0, none⟩) (show q ≤ q + 1 by omega) (.slice (some ⟨cb', 0, none⟩) (im 0).cn cap')).setCell (p := ⟨q + 1, 1, none⟩) (show q ≤ q + 1 by omega) (.slice oa' L'.length oc')); clear hzz hf' HE1 HE2 HG1 HG2 HB; have HB := HBx; clear HBx; generalize World.setCell (World.setCell w3 _ _) _ _ = W4 at *; have HBW := Lib.hid (Below.refl W4.heap.size W4); have HQ4 := Lib.hid (Nat.le_of_lt hqz); have k0 := cell_of_row _ _ 0 _ _ _ HO1.out; have k1 := cell_of_row _ _ 1 _ _ _ HO1.out; have j0 := cell_of_row _ _ 0 _ _ _ HO2.out; have j1 := cell_of_row _ _ 1 _ _ _ HO2.out)
  have hl20 : ¬ (20 : Int) < (L'.length : Int) := by rw [strip_len hL']; omega
  have HLL := Lib.hid (hL.trans hL'.symm)
  generalize min (prodN (mgC im t) (im 0).cn) 200001 = FN at *
  go_upto_region 23 with ((go_at_call 10; refine (HFD.out _ _ _ _ _ _ (HFX.out _ (HBW.out)).1).mono ?_; rintro e w5 ⟨rfl, hb5⟩; (have HBx := Lib.hid (HB.out.trans ((hb5).mono HB.out.size)); have k0x := ((bcell hb5).1 q 0 hqz).trans k0; have k1x := ((bcell hb5).1 q 1 hqz).trans k1; have j0x := ((bcell hb5).1 (q + 1) 0 hqz1).trans j0; have j1x := ((bcell hb5).1 (q + 1) 1 hqz1).trans j1; have hqx := Nat.lt_of_lt_of_le hqz (hb5).size; have hqx1 := Nat.lt_of_lt_of_le hqz1 (hb5).size; clear HB k0 k1 j0 j1 hqz hqz1; have HB := HBx; have k0 := k0x; have k1 := k1x; have j0 := j0x; have j1 := j1x; have hqz := hqx; have hqz1 := hqx1; clear HBx k0x k1x j0x j1x hqx hqx1); have HBWx := Lib.hid (HBW.out.trans (hb5.mono HBW.out.size)); clear HBW hb5; have HBW := HBWx; clear HBWx))
  have X1 := HFY.out _ (HB24.out.trans (HBW.out.mono HQ4.out))
  have X2 := HFX.out _ HBW.out
  have X3 := sameImage_lists (cap := cap) (cap' := cap') (oc := oc) (oc' := oc') X1 X2 HLL.out
  go_wp2_with (first | (go_at_call 11; refine X3.mono ?_; rintro e w4 ⟨rfl, hb4⟩; have HBx := Lib.hid (HB.out.trans ((hb4).mono HB.out.size)); clear HB; have HB := HBx; clear HBx; clear hb4) | (go_at_call 5; refine (HKN.out _ HB.out).mono ?_; rintro e w9 ⟨rfl, hb9⟩; have HBx := Lib.hid (HB.out.trans ((hb9).mono HB.out.size)); clear HB; have HB := HBx; clear HBx; clear hb9))
  exact HR.out _ HB.out
theorem mg_rest (a : Option Addr) (t c : Nat) (im : Nat → IM) (w : World) (h : IsIn a t im w) (W : World) (hb : Below w.heap.size w W) (u1 u2 u4 u5 u6 u7 u8 u9 u10 u11 u12 u13 u14 u15 u16 u17 u18 u19 u20 u21 u22 u23 u24 u25 u26 u27 u28 u29 u30 u31 u32 u33 u34 u35 u36 u37 u38 u39 u40 u41 u42 u43 u44 u45 u46 u47 u48 u49 u50 u51 u52 u53 u54 u55 u56 u57 u58 u59 u60 u61 u62 u63 u64 u65 u66 u67 u68 u69 u70 u71 u72 u73 u74 u75 u76 u77 u78 u79 u80 u81 u82 u83 u84 u85 u86 u87 u88 u89 u90 u91 u92 u93 u94 u95 u96 u97 u98 u99 u100 u101 u102 : Value) :
    (mgFrom 4).wp Tryd.prog (bodyPost Tryd.prog Tryd.f3 (mgPost w)) ⟨#[.slice a t c, u1, u2, .bool (vB t im t), u4, u5, u6, u7, u8, u9, u10, u11, u12, u13, u14, u15, u16, u17, u18, u19, u20, u21, u22, u23, u24, u25, u26, u27, u28, u29, u30, u31, u32, u33, u34, u35, u36, u37, u38, u39, u40, u41, u42, u43, u44, u45, u46, u47, u48, u49, u50, u51, u52, u53, u54, u55, u56, u57, u58, u59, u60, u61, u62, u63, u64, u65, u66, u67, u68, u69, u70, u71, u72, u73, u74, u75, u76, u77, u78, u79, u80, u81, u82, u83, u84, u85, u86, u87, u88, u89, u90, u91, u92, u93, u94, u95, u96, u97, u98, u99, u100, u101, u102], []⟩ W := by
  cases hv : vB t im t
  · rw [← hv]; apply mg_A a t c im w h hv W hb
  · rw [← hv]
    cases hok : mgOk (im 0).cn im t
    · apply mg_B7 a t c im w h hv hok W hb
    · by_cases h20 : 20 < (mgB im t).length
      · apply mg_B3a a t c im w h hv hok h20 W hb
      · cases hl : longB (im 0).cn (mgC im t) 200000
        · apply mg_B0 a t c im w h hv hok h20 hl W hb
        · apply mg_B3b a t c im w h hv hok h20 hl W hb
set_option maxRecDepth 100000 in
set_option maxHeartbeats 4000000 in
theorem Mg_loop (a : Option Addr) (t c : Nat) (im : Nat → IM) (w : World) (h : IsIn a t im w) (ht : t ≤ 12) :
    Calls Tryd.prog 3 #[.slice a t c] w (mgPost w) := by
  have HH := Lib.hid h
  have HKN := Lib.hid (fun (W : World) (hb : Below w.heap.size w W) => h.known hb)
  have HI := Lib.hid h.imgs
  have HSH0 := Lib.hid (fun (i : Nat) (hi : i < t) (W : World) (hb : Below w.heap.size w W) => h.shortC hi hb)
  have HSP0 := Lib.hid (fun (i : Nat) (hi : i < t) (W : World) (hb : Below w.heap.size w W) => h.shapeC hi hb)
  have HS0 := Lib.hid (show vB t im 0 = (decide (1 ≤ t) && decide (t ≤ 10)) from by unfold vB; simp [allUpto])
  have h12' : ¬ (12 : Int) < (t : Int) := by omega
  generalize hres : mgPost w = RES
  have HR := Lib.hid (fun (w' : World) (hb : Below w.heap.size w w') => show RES (.returned (.bool true)) w' from hres ▸ ⟨rfl, hb⟩)
  have HRES := Lib.hid hres
  clear h hres
  go_enter Tryd.func3, Tryd.ntmps3
  go_upto_region 3 with (fail)
  go_cut [3] from 14 to 21 (fun s3 wx => s3 = .bool (vB t im 0) ∧ wx = w)
  case first =>
    by_cases h1 : 1 ≤ t
    · have h1' : (1 : Int) ≤ (t : Int) := by omega
      rw [decide_eq_true h1, Bool.true_and] at HS0
      by_cases h2 : t ≤ 10
      · have h2' : (t : Int) ≤ 10 := by omega
        rw [decide_eq_true h2] at HS0
        go_wp2
        go_meet
        exact ⟨by rw [HS0.out], rfl⟩
      · have h2' : ¬ (t : Int) ≤ 10 := by omega
        rw [decide_eq_false h2] at HS0
        go_wp2
        go_meet
        exact ⟨by rw [HS0.out], rfl⟩
    · have h1' : ¬ (1 : Int) ≤ (t : Int) := by omega
      rw [decide_eq_false h1, Bool.false_and] at HS0
      go_wp2
      go_meet
      exact ⟨by rw [HS0.out], rfl⟩
  case rest =>
    obtain ⟨rfl, rfl⟩ := hcut
    rename World => w0
    go_upto_block 0 with (fail)
    go_cut [3] from 4 to 56 (fun s3 wx => s3 = .bool (vB t im t) ∧ Hid (Below w0.heap.size w0 wx))
    case first =>
      go_wp2
      go_loopw [3, 4] (fun s3 s4 wr => ∃ i : Nat, i ≤ t ∧ s4 = .int .i64 (i : Int) ∧ s3 = .bool (vB t im i) ∧ Hid (Below w0.heap.size w0 wr)) (fun _ s4 _ => t - (intOf s4).toNat)
      case atStart => exact ⟨0, Nat.zero_le _, rfl, rfl, Lib.hid (Below.refl _ _)⟩
      case round =>
        obtain ⟨i, hi, rfl, rfl, HB⟩ := hrel
        by_cases hlt : i < t
        · have hlt' : (i : Int) < (t : Int) := by omega
          have h0t : (0 : Int) < (t : Int) := by omega
          have HSH := Lib.hid (HSH0.out i hlt)
          have HSP := Lib.hid (HSP0.out i hlt)
          obtain ⟨xb, xo, hxa, hxB, x0, x1, _, _⟩ := (HI.out.below HB.out).get hlt
          obtain ⟨xb', xo', hxa', _, y0, _⟩ := (HI.out.below HB.out).get (i := 0) (by omega)
          subst hxa
          injection hxa' with hxa'
          injection hxa' with e1 e2 _
          subst e1 e2
          rw [Nat.zero_mul, Nat.add_zero] at y0
          have hxr : xb < wr.heap.size := by have := HB.out.size; omega
          have HSB := Lib.hid (vB_succ (t := t) (im := im) (i := i))
          generalize vB t im i = sh at *
          generalize (im i).short = xs at *
          generalize (im i).shape = xsp at *
          generalize (im i).cn = ni at *
          generalize (im 0).cn = n0 at *
          cases xs
          · clear HSB y0
            go_wp2_with (first | (go_at_call 6; refine (HSH.out _ HB.out).mono ?_; rintro e w2 ⟨rfl, hb2⟩; have HB2 := Lib.hid (HB.out.trans (hb2.mono HB.out.size))) | (go_at_call 5; refine (HKN.out _ HB2.out).mono ?_; rintro e w5 ⟨rfl, hb5⟩))
            exact HR.out _ (HB2.out.trans (hb5.mono HB2.out.size))
          · go_upto_region 9 with ((go_at_call 6; refine (HSH.out _ HB.out).mono ?_; rintro e w2 ⟨rfl, hb2⟩; have HBx := Lib.hid (HB.out.trans ((hb2).mono HB.out.size)); have x0x := ((bcell hb2).1 xb (xo + i * 2) hxr).trans x0; have x1x := ((bcell hb2).1 xb (xo + i * 2 + 1) hxr).trans x1; have y0x := ((bcell hb2).1 xb xo hxr).trans y0; have hxrx := Nat.lt_of_lt_of_le hxr (hb2).size; clear HB x0 x1 y0 hxr; have HB := HBx; have x0 := x0x; have x1 := x1x; have y0 := y0x; have hxr := hxrx; clear HBx x0x x1x y0x hxrx; clear hb2))
            rename World => wz
            cases sh
            · rw [Bool.false_and] at HSB
              ((refine wp_region_calm (wz.heap.size) (by kernel_rfl) (by kernel_rfl) ?_; (repeat (first | go_big_quiet_step ((go_at_call 7; exact Calls.calm_of (Nat.le_refl _) (HSP.out _ (HB.out.trans ((Calm.below _).mono HB.out.size))))) | quiet_step ((go_at_call 7; exact Calls.calm_of (Nat.le_refl _) (HSP.out _ (HB.out.trans ((Calm.below _).mono HB.out.size))))))); refine wpQuiet_nil ?_; intro _ hw'; obtain ⟨xq, hw''⟩ := hw'; subst hw''); have HBZ := Lib.hid (HB.out.trans ((Calm.below xq).mono HB.out.size)); generalize Calm.val xq = wy at *; go_wp2; go_roundw; (case rel => exact ⟨i + 1, by omega, by go_num, by rw [HSB.out], HBZ⟩); (case measure => (simp [intOf]; omega)))
            · rw [Bool.true_and] at HSB
              cases xsp
              · rw [Bool.false_and] at HSB
                ((refine wp_region_calm (wz.heap.size) (by kernel_rfl) (by kernel_rfl) ?_; (repeat (first | go_big_quiet_step ((go_at_call 7; exact Calls.calm_of (Nat.le_refl _) (HSP.out _ (HB.out.trans ((Calm.below _).mono HB.out.size))))) | quiet_step ((go_at_call 7; exact Calls.calm_of (Nat.le_refl _) (HSP.out _ (HB.out.trans ((Calm.below _).mono HB.out.size))))))); refine wpQuiet_nil ?_; intro _ hw'; obtain ⟨xq, hw''⟩ := hw'; subst hw''); have HBZ := Lib.hid (HB.out.trans ((Calm.below xq).mono HB.out.size)); generalize Calm.val xq = wy at *; go_wp2; go_roundw; (case rel => exact ⟨i + 1, by omega, by go_num, by rw [HSB.out], HBZ⟩); (case measure => (simp [intOf]; omega)))
              · rw [Bool.true_and] at HSB
                by_cases hnn : ni = n0
                · subst hnn
                  rw [beq_self_eq_true] at HSB
                  ((refine wp_region_calm (wz.heap.size) (by kernel_rfl) (by kernel_rfl) ?_; (repeat (first | go_big_quiet_step ((go_at_call 7; exact Calls.calm_of (Nat.le_refl _) (HSP.out _ (HB.out.trans ((Calm.below _).mono HB.out.size))))) | quiet_step ((go_at_call 7; exact Calls.calm_of (Nat.le_refl _) (HSP.out _ (HB.out.trans ((Calm.below _).mono HB.out.size))))))); refine wpQuiet_nil ?_; intro _ hw'; obtain ⟨xq, hw''⟩ := hw'; subst hw''); have HBZ := Lib.hid (HB.out.trans ((Calm.below xq).mono HB.out.size)); generalize Calm.val xq = wy at *; go_wp2; go_roundw; (case rel => exact ⟨i + 1, by omega, by go_num, by rw [HSB.out], HBZ⟩); (case measure => (simp [intOf]; omega)))
                · have hne : ((ni : Int) == (n0 : Int)) = false := by rw [beq_eq_false_iff_ne]; omega
                  rw [show (ni == n0) = false from by rw [beq_eq_false_iff_ne]; exact hnn] at HSB
                  ((refine wp_region_calm (wz.heap.size) (by kernel_rfl) (by kernel_rfl) ?_; (repeat (first | go_big_quiet_step ((go_at_call 7; exact Calls.calm_of (Nat.le_refl _) (HSP.out _ (HB.out.trans ((Calm.below _).mono HB.out.size))))) | quiet_step ((go_at_call 7; exact Calls.calm_of (Nat.le_refl _) (HSP.out _ (HB.out.trans ((Calm.below _).mono HB.out.size))))))); refine wpQuiet_nil ?_; intro _ hw'; obtain ⟨xq, hw''⟩ := hw'; subst hw''); have HBZ := Lib.hid (HB.out.trans ((Calm.below xq).mono HB.out.size)); generalize Calm.val xq = wy at *; go_wp2; go_roundw; (case rel => exact ⟨i + 1, by omega, by go_num, by rw [HSB.out], HBZ⟩); (case measure => (simp [intOf]; omega)))
        · obtain rfl : t = i := by omega
          have hlt' : ¬ (t : Int) < (t : Int) := by omega
          go_wp2
          go_meet
          exact ⟨rfl, HB⟩
    case rest =>
      obtain ⟨rfl, HX⟩ := hcut
      rename_i hKK
      refine hKK _ _ ?_
      rw [← HRES.out]
      apply mg_rest a t c im w0 HH.out wc HX.out
set_option maxRecDepth 100000 in
set_option maxHeartbeats 4000000 in
theorem ImageMerges_any (a : Option Addr) (t c : Nat) (im : Nat → IM) (w : World) (B : Nat) (hBw : B ≤ w.heap.size) (hI : Imgs B w a t im) (ht : Lib.TabIs Tryd.prog w "internal/strconv.uint64pow10" .u64 Lib.pow10Tab) :
    Calls Tryd.prog 3 #[.slice a t c] w fun e w' => e = .returned (.bool true) ∧ Below w.heap.size w w' := by
  have h : IsIn a t im w := ⟨hI.up hBw, Lib.tabBelow_of_tabIs ht⟩
  have htm := hI.1
  unfold maxLen at htm
  by_cases h12 : t ≤ 12
  · exact Mg_loop a t c im w h h12
  · have HKN := Lib.hid (fun (W : World) (hb : Below w.heap.size w W) => h.known hb)
    have HB := Lib.hid (Below.refl w.heap.size w)
    have h12' : (12 : Int) < (t : Int) := by omega
    clear h hI ht h12
    go_enter Tryd.func3, Tryd.ntmps3
    go_wp2_with (go_at_call 5; refine (HKN.out _ HB.out).mono ?_; rintro e w5 ⟨rfl, hb5⟩)
    go_ret
    exact ⟨rfl, hb5⟩
end Go.Proofs.YtnfigielhnnpnaaDoor
