/- ImageMerged: what its walk needs. -/
import Derived.Test.YtnfigielhnnpnaaDoorLawMg0
import Derived.Test.YtnfigielhnnpnaaDoorGmlA
import Derived.Test.YtnfigielhnnpnaaDoorGrfA
namespace Go.Proofs.YtnfigielhnnpnaaDoor
open Go.RowKit
set_option linter.unusedVariables false
set_option linter.unusedSimpArgs false
/-- an image as it lies in memory -/
def Img (W : World) (x : IM) : Prop := Spans W.heap.size W x.ca x.cn x.ss ∧ Beams W.heap.size W x.ba x.bn x.bs
theorem Img.below {W W' : World} {x : IM} (h : Img W x) (hb : Below W.heap.size W W') : Img W' x := ⟨(h.1.below hb).up hb.size, (h.2.below hb).up hb.size⟩
theorem md_field_iff {n : Nat} {ss : Nat → SV} {k : Nat} {f : Nat → Int} : fieldB n ss k f = true ↔ k = n ∧ ∀ c, c < n → (ss c).lo ≤ f c ∧ f c ≤ (ss c).hi := by
  unfold fieldB
  rw [Bool.and_eq_true, allUpto_iff, beq_iff_eq]
  constructor
  · rintro ⟨h1, rfl⟩
    exact ⟨rfl, fun c hc => inB_iff.1 (h1 c (by omega))⟩
  · rintro ⟨rfl, h1⟩
    exact ⟨fun c hc => inB_iff.2 (h1 c (by omega)), rfl⟩
section
variable {x y : IM} {fa : Option Addr} {k fc : Nat} {f : Nat → Int} {w W : World}
theorem imS (h : Img W x) : Calls Tryd.prog 6 #[.agg #[.slice x.ca x.cn x.cc, .slice x.ba x.bn x.bc]] W fun e w' => e = .returned (.bool x.short) ∧ Below W.heap.size W w' := short_any x.ca x.cn x.cc x.ba x.bn x.bc x.bs W _ (Nat.le_refl _) h.1.1 h.2
theorem imC (h : Img W x) {E : Int} (hE : x.check = E) : Calls Tryd.prog 12 #[.agg #[.slice x.ca x.cn x.cc, .slice x.ba x.bn x.bc]] W fun e w' => e = .returned (.int .i64 E) ∧ Below W.heap.size W w' := hE ▸ r8Check_any x.ca x.cn x.cc x.ba x.bn x.bc x.ss x.bs W _ (Nat.le_refl _) h.1 h.2
theorem imP (h : Img W x) (hS : Shape x.cn x.ss x.bn x.bs) : Calls Tryd.prog 10 #[.agg #[.slice x.ca x.cn x.cc, .slice x.ba x.bn x.bc]] W fun e w' => e = .returned (.int .i64 x.fields) ∧ Below W.heap.size W w' := r8Fields_any x.ca x.cn x.cc x.ba x.bn x.bc x.ss W _ (Nat.le_refl _) h.1 hS.span
theorem imF (h : Img W x) (hF : Ints W.heap.size W fa k f) (hk : k ≤ maxLen) {b : Bool} (hb : fieldB x.cn x.ss k f = b) : Calls Tryd.prog 13 #[.agg #[.slice x.ca x.cn x.cc, .slice x.ba x.bn x.bc], .slice fa k fc] W fun e w' => e = .returned (.bool b) ∧ Below W.heap.size W w' := hb ▸ r8Field_any x.ca x.cn x.cc x.ba x.bn x.bc x.ss fa k fc f W _ (Nat.le_refl _) h.1 hF hk
theorem imA (h : Img W x) (hS : Shape x.cn x.ss x.bn x.bs) (hF : Ints W.heap.size W fa k f) (hb : fieldB x.cn x.ss k f = true) {b : Bool} (hg : agreesB x.bn x.bs f = b) : Calls Tryd.prog 14 #[.agg #[.slice x.ca x.cn x.cc, .slice x.ba x.bn x.bc], .slice fa k fc] W fun e w' => e = .returned (.bool b) ∧ Below W.heap.size W w' := by
  obtain ⟨rfl, h1⟩ := md_field_iff.1 hb
  exact hg ▸ r8Agrees_any x.ca x.cn x.cc x.ba x.bn x.bc x.ss x.bs fa fc f W _ (Nat.le_refl _) h.2 hS hF (fun c hc => by have h2 := h1 c hc; have h3 := hS.span c hc; omega)
theorem imgs2 (hx : Img W x) (hy : Img W y) : Imgs (W.alloc (.cells #[.slice x.ca x.cn x.cc, .slice x.ba x.bn x.bc, .slice y.ca y.cn y.cc, .slice y.ba y.bn y.bc] 28)).heap.size (W.alloc (.cells #[.slice x.ca x.cn x.cc, .slice x.ba x.bn x.bc, .slice y.ca y.cn y.cc, .slice y.ba y.bn y.bc] 28)) (some ⟨W.heap.size, 0, none⟩) 2 (im2 x y) := by
  have hb := alloc_below W (.cells #[.slice x.ca x.cn x.cc, .slice x.ba x.bn x.bc, .slice y.ca y.cn y.cc, .slice y.ba y.bn y.bc] 28)
  have hn := heap_alloc_new W (.cells #[.slice x.ca x.cn x.cc, .slice x.ba x.bn x.bc, .slice y.ca y.cn y.cc, .slice y.ba y.bn y.bc] 28)
  have h1 := hx.below hb
  have h2 := hy.below hb
  refine ⟨by decide, .inr ⟨W.heap.size, 0, rfl, by simp, fun i hi => ?_⟩⟩
  match i, hi with
  | 0, _ => exact ⟨cell_of_row _ _ _ _ _ _ hn, cell_of_row _ _ _ _ _ _ hn, h1.1, h1.2⟩
  | 1, _ => exact ⟨cell_of_row _ _ _ _ _ _ hn, cell_of_row _ _ _ _ _ _ hn, h2.1, h2.2⟩
/-- what the two Merges say -/
def mdE (n : Nat) (x y : IM) : Int := if allUpto n (fun c => decide ((sv2 x y c).lo ≤ (sv2 x y c).hi)) = false then 7 else if 20 < x.bn + y.bn then 3 else 0
theorem mdE_comm {n : Nat} : mdE n x y = mdE n y x := by unfold mdE; rw [sv2_comm, Nat.add_comm]
end
/-- the guards that are held -/
structure MdDom (x y : IM) (k : Nat) : Prop where
  xs : x.short = true
  ys : y.short = true
  xc : x.check = 0
  yc : y.check = 0
  few : x.fields ≤ 5000
  cn : x.cn = y.cn
  k60 : k ≤ 60
section
variable {x y : IM} {fa : Option Addr} {k fc : Nat} {f : Nat → Int} {w W : World}
theorem MdDom.xS (h : MdDom x y k) : Shape x.cn x.ss x.bn x.bs := checkN_shape h.xc
theorem MdDom.yS (h : MdDom x y k) : Shape x.cn y.ss y.bn y.bs := h.cn ▸ checkN_shape h.yc
theorem MdDom.yes (h : MdDom x y k) : MdYes x.cn x y := ⟨h.xS, h.yS, by have := h.few; unfold IM.fields at this; omega⟩
theorem md_mgE (hx : Shape x.cn x.ss x.bn x.bs) (hy : Shape x.cn y.ss y.bn y.bs) (hc : y.cn = x.cn) (hp : allUpto x.cn (fun c => decide ((sv2 x y c).lo ≤ (sv2 x y c).hi)) = true → prodN (sv2 x y) x.cn ≤ 5000) : mgE 2 (im2 x y) = mdE x.cn x y := by
  have hv : vB 2 (im2 x y) 2 = true := by
    rw [vB_iff]
    refine ⟨⟨by decide, by decide⟩, fun j hj => ?_⟩
    have h1 : ShapedI x.cn x = true := by unfold ShapedI; rw [shapeB_iff.2 hx, Bool.true_and, beq_self_eq_true]
    have h2 : ShapedI x.cn y = true := by unfold ShapedI; rw [hc, shapeB_iff.2 hy, Bool.true_and, beq_self_eq_true]
    match j, hj with
    | 0, _ => exact h1
    | 1, _ => exact h2
  rw [mgE_good hv]
  show (if mgOk x.cn (im2 x y) 2 = false then (7 : Int) else if 20 < (mgB (im2 x y) 2).length ∨ longB x.cn (mgC (im2 x y) 2) 200000 = true then 3 else 0) = _
  rw [mgOk2 (fun c hc => (hx.span c hc).2.1), mgB2_len, mgC2]
  unfold mdE
  cases ho : allUpto x.cn (fun c => decide ((sv2 x y c).lo ≤ (sv2 x y c).hi))
  · rfl
  · have hl : longB x.cn (sv2 x y) 200000 = false := by unfold longB; exact decide_eq_false (by have := hp ho; omega)
    rw [hl]
    simp
theorem MdDom.mg (h : MdDom x y k) : mgE 2 (im2 x y) = mdE x.cn x y := md_mgE h.xS h.yS h.cn.symm (md_few h.yes)
theorem MdDom.mg' (h : MdDom x y k) : mgE 2 (im2 y x) = mdE x.cn x y := by
  have h1 := md_mgE (x := y) (y := x) (checkN_shape h.yc) (h.cn ▸ h.xS) h.cn (fun ho => by
    rw [sv2_comm] at ho ⊢
    rw [← h.cn] at ho ⊢
    exact md_few h.yes ho)
  rw [h1, ← h.cn, mdE_comm]
theorem merge2E (hx : Img W x) (hy : Img W y) {E : Int} (hE : mgE 2 (im2 x y) = E) (h0 : E ≠ 0) : Calls Tryd.prog 8 #[.slice (some ⟨W.heap.size, 0, none⟩) 2 2] (W.alloc (.cells #[.slice x.ca x.cn x.cc, .slice x.ba x.bn x.bc, .slice y.ca y.cn y.cc, .slice y.ba y.bn y.bc] 28)) fun e w' => e = .returned (.tuple #[.agg #[.slice none 0 0, .slice none 0 0], .int .i64 E]) ∧ Below W.heap.size W w' := by
  have hb := alloc_below W (.cells #[.slice x.ca x.cn x.cc, .slice x.ba x.bn x.bc, .slice y.ca y.cn y.cc, .slice y.ba y.bn y.bc] 28)
  refine (Merge_any _ 2 2 (im2 x y) _ _ (Nat.le_refl _) (imgs2 hx hy) ⟨by decide, by decide⟩).mono ?_
  rintro e w' ⟨h1, h2⟩
  refine ⟨?_, hb.trans (h1.mono hb.size)⟩
  rcases h2 with ⟨_, h2⟩ | ⟨h2, _⟩
  · rw [hE] at h2
    exact h2
  · rw [hE] at h2
    exact absurd h2 h0
/-- what the image is that two are merged to -/
structure MdM (x y u : IM) : Prop where
  cn : u.cn = x.cn
  ss : u.ss = sv2 x y
  lst : ∃ L : List BM, L.map BM.strip = (mgB (im2 x y) 2).map BM.strip ∧ u.bn = L.length ∧ u.bs = beamL L
theorem merge2O (hx : Img W x) (hy : Img W y) (hE : mgE 2 (im2 x y) = 0) : Calls Tryd.prog 8 #[.slice (some ⟨W.heap.size, 0, none⟩) 2 2] (W.alloc (.cells #[.slice x.ca x.cn x.cc, .slice x.ba x.bn x.bc, .slice y.ca y.cn y.cc, .slice y.ba y.bn y.bc] 28)) fun e w' => ∃ u : IM, e = .returned (.tuple #[.agg #[.slice u.ca u.cn u.cc, .slice u.ba u.bn u.bc], .int .i64 0]) ∧ MdM x y u ∧ Img w' u ∧ Below W.heap.size W w' := by
  have hb := alloc_below W (.cells #[.slice x.ca x.cn x.cc, .slice x.ba x.bn x.bc, .slice y.ca y.cn y.cc, .slice y.ba y.bn y.bc] 28)
  refine (Merge_any _ 2 2 (im2 x y) _ _ (Nat.le_refl _) (imgs2 hx hy) ⟨by decide, by decide⟩).mono ?_
  rintro e w' ⟨h1, h2⟩
  rcases h2 with ⟨h2, _⟩ | ⟨_, cb, cap, oa, oc, L, he, hL, hf⟩
  · exact absurd hE h2
  · have h3 := hf.here
    rw [mgC2] at h3
    exact ⟨⟨some ⟨cb, 0, none⟩, x.cn, cap, oa, L.length, oc, sv2 x y, beamL L⟩, he, ⟨rfl, rfl, L, hL, rfl, rfl⟩, h3, hb.trans (h1.mono hb.size)⟩
theorem MdM.check {u : IM} (hu : MdM x y u) (hX : Shape x.cn x.ss x.bn x.bs) (hY : Shape x.cn y.ss y.bn y.bs) (ho : allUpto x.cn (fun c => decide ((sv2 x y c).lo ≤ (sv2 x y c).hi)) = true) (hl : x.bn + y.bn ≤ 20) (hp : prodN (sv2 x y) x.cn ≤ 5000) : checkN u.cn u.ss u.bn u.bs = 0 := by
  obtain ⟨L, hL, e1, e2⟩ := hu.lst
  rw [hu.cn, hu.ss, e1, e2]
  exact check_of (md_shape hX hY hL ho hl) (by omega)
theorem MdM.field {u : IM} (hu : MdM x y u) : fieldB u.cn u.ss k f = (fieldB x.cn x.ss k f && fieldB x.cn y.ss k f) := by rw [hu.cn, hu.ss, md_field]
theorem MdM.agrees {u : IM} (hu : MdM x y u) : agreesB u.bn u.bs f = (agreesB x.bn x.bs f && agreesB y.bn y.bs f) := by
  obtain ⟨L, hL, e1, e2⟩ := hu.lst
  rw [e1, e2, md_agrees hL]
theorem MdM.sub {u : IM} (hu : MdM x y u) : ∀ g, g ∈ allF u.cn u.ss u.bn u.bs → g ∈ allF x.cn x.ss x.bn x.bs := by
  obtain ⟨L, hL, e1, e2⟩ := hu.lst
  rw [hu.cn, hu.ss, e1, e2]
  exact md_sub hL
theorem MdM.all {u v : IM} (hu : MdM x y u) (hv : MdM y x v) (hc : x.cn = y.cn) : allF u.cn u.ss u.bn u.bs = allF v.cn v.ss v.bn v.bs := by
  obtain ⟨L, hL, e1, e2⟩ := hu.lst
  obtain ⟨L', hL', e1', e2'⟩ := hv.lst
  rw [hu.cn, hu.ss, e1, e2, hv.cn, hv.ss, e1', e2', ← hc]
  exact md_all hL hL'
end
/-- what comes in -/
structure MdIn (x y : IM) (fa : Option Addr) (k : Nat) (f : Nat → Int) (w : World) : Prop where
  x : Img w x
  y : Img w y
  field : Ints w.heap.size w fa k f
  lk : k ≤ maxLen
  tab : Lib.TabBelow Tryd.prog w.heap.size w "internal/strconv.uint64pow10" .u64 Lib.pow10Tab
theorem MdIn.known {x y : IM} {fa : Option Addr} {k : Nat} {f : Nat → Int} {w W : World} (h : MdIn x y fa k f w) (hb : Below w.heap.size w W) : Calls Tryd.prog 5 #[] W fun e w' => e = .returned (.bool true) ∧ Below W.heap.size W w' := known_any W (h.tab W hb)
/-- the two images in their boxes -/
structure AB (x y : IM) (w W : World) : Prop where
  below : Below w.heap.size w W
  a : W.heap[w.heap.size]? = some (.cells #[.slice x.ca x.cn x.cc, .slice x.ba x.bn x.bc] 28)
  b : W.heap[w.heap.size + 1]? = some (.cells #[.slice y.ca y.cn y.cc, .slice y.ba y.bn y.bc] 28)
theorem AB.step {x y : IM} {w W W' : World} (h : AB x y w W) (hb : Below W.heap.size W W') : AB x y w W' :=
  ⟨h.below.trans (hb.mono h.below.size), (hb.block _ (Array.getElem?_eq_some_iff.1 h.a).1).trans h.a, (hb.block _ (Array.getElem?_eq_some_iff.1 h.b).1).trans h.b⟩
/-- the bounds of all cells -/
def mdB (n : Nat) (ss : Nat → SV) (m : Nat) (bs : Nat → BM) (i : Nat) : SV := bnd (fun f => fOf f i) (allF n ss m bs)
section
variable {a : Option Addr} {n c : Nat} {ba : Option Addr} {m bc : Nat} {ss : Nat → SV} {bs : Nat → BM} {w W : World}
theorem md_bounds_nil {B : Nat} (hB : B ≤ W.heap.size) (hS : Spans B W a n ss) (hM : Beams B W ba m bs) (hC : checkN n ss m bs = 0) (hA : allF n ss m bs = []) : Calls Tryd.prog 15 #[imageV a n c ba m bc] W fun e w' => e = .returned (.tuple #[.slice none 0 0, .int .i64 5]) ∧ Below W.heap.size W w' :=
  (Bounds_any a n c ba m bc ss bs W B hB hS hM).mono fun e w' h => by
    have h2 := h.2
    rw [if_pos hC, if_pos hA] at h2
    exact ⟨h2, h.1⟩
theorem md_bounds_some {B : Nat} (hB : B ≤ W.heap.size) (hS : Spans B W a n ss) (hM : Beams B W ba m bs) (hC : checkN n ss m bs = 0) (hA : allF n ss m bs ≠ []) : Calls Tryd.prog 15 #[imageV a n c ba m bc] W fun e w' => (∃ ob, e = .returned (.tuple #[.slice (some ⟨ob, 0, none⟩) n n, .int .i64 0]) ∧ Spans w'.heap.size w' (some ⟨ob, 0, none⟩) n (mdB n ss m bs)) ∧ Below W.heap.size W w' :=
  (Bounds_any a n c ba m bc ss bs W B hB hS hM).mono fun e w' h' => by
    have h2 := h'.2
    rw [if_pos hC, if_neg hA] at h2
    obtain ⟨ob, he, _, hs⟩ := h2
    exact ⟨⟨ob, he, hS.1, .inr ⟨ob, 0, rfl, hs.lt, fun i hi => by rw [Nat.zero_add]; exact hs.cell hi⟩⟩, h'.1⟩
end
end Go.Proofs.YtnfigielhnnpnaaDoor
