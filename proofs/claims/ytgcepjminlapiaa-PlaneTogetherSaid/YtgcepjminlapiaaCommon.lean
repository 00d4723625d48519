/- The walk of plane.Common. -/
import Derived.Test.YtgcepjminlapiaaHits
import Derived.Test.YtgcepjminlapiaaPlaneG
import Derived.Deep.RegionHeld3
namespace Go.Proofs.Ytgcepjminlapiaa
open Go.RowKit
set_option linter.unusedVariables false
set_option linter.unusedSimpArgs false
/-- the boxes of plane.Common: the setup's, the result's -/
abbrev CS (a : Option Addr) (n c : Nat) (w wx : World) : Prop := wx.cell? ⟨w.heap.size, 0, none⟩ = some (.slice a n c) ∧ wx.cell? ⟨w.heap.size + 1, 0, none⟩ = some (.int .i64 0) ∧ wx.cell? ⟨w.heap.size + 1, 1, none⟩ = some (.int .i64 0) ∧ wx.frozen? ⟨w.heap.size + 1, 0, none⟩ = false ∧ wx.frozen? ⟨w.heap.size + 1, 1, none⟩ = false ∧ w.heap.size + 2 ≤ wx.heap.size ∧ w.heap.size < wx.heap.size ∧ w.heap.size + 1 < wx.heap.size ∧ Below w.heap.size w wx
theorem CS_step {a : Option Addr} {n c : Nat} {w W wy : World} (hL : CS a n c w W) (hb : Below W.heap.size W wy) : CS a n c w wy := by
  obtain ⟨l0, l1, l2, l3, l4, l5, l6, l7, l8⟩ := hL
  obtain ⟨hc, hf⟩ := bcell hb
  have hs := hb.size
  exact ⟨(hc _ _ l6).trans l0, (hc _ _ l7).trans l1, (hc _ _ l7).trans l2, (hf _ _ l7).trans l3, (hf _ _ l7).trans l4, by omega, by omega, by omega, l8.trans (hb.mono (by omega))⟩
theorem CS_set {a : Option Addr} {n c x : Nat} {w W : World} {vs : List Value} {o : Nat} (hL : CS a n c w W) (hx : w.heap.size + 2 ≤ x) : CS a n c w (W.setCells x o vs) := by
  obtain ⟨l0, l1, l2, l3, l4, l5, l6, l7, l8⟩ := hL
  have hb : Below w.heap.size w (W.setCells x o vs) := below_setCells (by omega) _ _ _ l8
  have hb2 : Below (w.heap.size + 2) W (W.setCells x o vs) := below_setCells (by omega) _ _ _ (Below.refl _ _)
  obtain ⟨hc, hf⟩ := bcell hb2
  have hs := hb2.size
  exact ⟨(hc _ _ (by omega)).trans l0, (hc _ _ (by omega)).trans l1, (hc _ _ (by omega)).trans l2, (hf _ _ (by omega)).trans l3, (hf _ _ (by omega)).trans l4, by omega, by omega, by omega, hb⟩
theorem CS_start {a : Option Addr} {n c : Nat} {w : World} {t t' : TypeId} : CS a n c w ((w.alloc (.cells #[.slice a n c] t)).alloc (.cells #[.int .i64 0, .int .i64 0] t')) := by
  have h0 := fun j => cell_of_row ((w.alloc (.cells #[.slice a n c] t)).alloc (.cells #[.int .i64 0, .int .i64 0] t')) w.heap.size j _ _ _ (heapQ_2_0 _ _ _)
  have h1 := fun j => cell_of_row ((w.alloc (.cells #[.slice a n c] t)).alloc (.cells #[.int .i64 0, .int .i64 0] t')) (w.heap.size + 1) j _ _ _ (heapQ_2_1 _ _ _)
  exact ⟨h0 0, h1 0, h1 1, by go_simp, by go_simp, by simp, by simp; omega, by simp, ((Below.refl _ _).alloc (Nat.le_refl _) _).alloc (by simp) _⟩
abbrev HA6 (b o : Nat) (h : HV) (wx : World) : Prop := wx.cell? ⟨b, o, none⟩ = some (.int .i64 h.plane) ∧ wx.cell? ⟨b, o + 1, none⟩ = some (.int .i64 h.channel) ∧ wx.cell? ⟨b, o + 2, none⟩ = some (.int .i64 h.many) ∧ wx.cell? ⟨b, o + 3, none⟩ = some (.int .i64 h.drift) ∧ wx.cell? ⟨b, o + 4, none⟩ = some (.int .i64 h.charge) ∧ wx.cell? ⟨b, o + 5, none⟩ = some (.int .i64 h.time)
abbrev S6 (a : Option Addr) (n c b o : Nat) (h : HV) (w wx : World) : Prop := CS a n c w wx ∧ HA6 b o h wx ∧ b < w.heap.size
theorem S6_step {a : Option Addr} {n c b o : Nat} {h : HV} {w W wy : World} (hL : S6 a n c b o h w W) (hb : Below W.heap.size W wy) : S6 a n c b o h w wy := by
  obtain ⟨h1, h2, h3⟩ := hL
  refine ⟨CS_step h1 hb, ?_, h3⟩
  have : b < W.heap.size := by have := h1.2.2.2.2.2.1; omega
  exact HV.at.below (h := h) h2 hb this
theorem S6_set {a : Option Addr} {n c b o x : Nat} {h : HV} {w W : World} {vs : List Value} {oo : Nat} (hL : S6 a n c b o h w W) (hx : w.heap.size + 2 ≤ x) : S6 a n c b o h w (W.setCells x oo vs) := by
  obtain ⟨h1, h2, h3⟩ := hL
  refine ⟨CS_set h1 hx, ?_, h3⟩
  have hb2 : Below (w.heap.size + 2) W (W.setCells x oo vs) := below_setCells (by omega) _ _ _ (Below.refl _ _)
  exact HV.at.below (h := h) h2 hb2 (by omega)
theorem S6_drew {a : Option Addr} {n c b o : Nat} {h : HV} {w W : World} (hL : S6 a n c b o h w W) : S6 a n c b o h w W.drew := ⟨⟨hL.1.1, hL.1.2.1, hL.1.2.2.1, hL.1.2.2.2.1, hL.1.2.2.2.2.1, hL.1.2.2.2.2.2.1, hL.1.2.2.2.2.2.2.1, hL.1.2.2.2.2.2.2.2.1, hL.1.2.2.2.2.2.2.2.2.drew⟩, hL.2⟩
theorem S6_alloc {a : Option Addr} {n c b o : Nat} {h : HV} {w W : World} (hL : S6 a n c b o h w W) (ob : Obj) : S6 a n c b o h w (W.alloc ob) := S6_step hL ((Below.refl _ _).alloc (Nat.le_refl _) _)
theorem S6_sz {a : Option Addr} {n c b o : Nat} {h : HV} {w W : World} (hL : S6 a n c b o h w W) : w.heap.size + 2 ≤ W.heap.size := hL.1.2.2.2.2.2.1
theorem S6_below {a : Option Addr} {n c b o : Nat} {h : HV} {w W : World} (hL : S6 a n c b o h w W) : Below w.heap.size w W := hL.1.2.2.2.2.2.2.2.2
theorem QS_lt1d {X wy : World} {o : Obj} (h : Below (X.alloc o).drew.heap.size (X.alloc o).drew wy) : X.heap.size < wy.heap.size := by have := h.size; simp at this; omega
/-- the first and the last time in common, when i hits more have been looked at -/
def cL (tl : Nat → Int) : Nat → Int
  | 0 => tl 0
  | i + 1 => if cL tl i < tl (i + 1) then tl (i + 1) else cL tl i
def cH (th : Nat → Int) : Nat → Int
  | 0 => th 0
  | i + 1 => if th (i + 1) < cH th i then th (i + 1) else cH th i
def tlOf (ps : Nat → PR) (hs : Nat → HV) (i : Nat) : Int := timeLo (ps (hs i).plane.toNat) (hs i)
def thOf (ps : Nat → PR) (hs : Nat → HV) (i : Nat) : Int := timeHi (ps (hs i).plane.toNat) (hs i)
abbrev S7 (a : Option Addr) (n c b o : Nat) (h : HV) (w : World) (x7 : Nat) (A : Array Value) (wx : World) : Prop := S6 a n c b o h w wx ∧ x7 < wx.heap.size ∧ ∀ j, j < 16 → wx.cell? ⟨x7, j, none⟩ = A[j]?
theorem S7_step {a : Option Addr} {n c b o : Nat} {h : HV} {w W wy : World} {x7 : Nat} {A : Array Value} (hL : S7 a n c b o h w x7 A W) (hb : Below W.heap.size W wy) : S7 a n c b o h w x7 A wy :=
  ⟨S6_step hL.1 hb, Nat.lt_of_lt_of_le hL.2.1 hb.size, fun j hj => ((bcell hb).1 _ _ hL.2.1).trans (hL.2.2 j hj)⟩
theorem S7_alloc {a : Option Addr} {n c b o : Nat} {h : HV} {w W : World} {x7 : Nat} {A : Array Value} (hL : S7 a n c b o h w x7 A W) (ob : Obj) : S7 a n c b o h w x7 A (W.alloc ob) := S7_step hL ((Below.refl _ _).alloc (Nat.le_refl _) _)
theorem S7_drew {a : Option Addr} {n c b o : Nat} {h : HV} {w W : World} {x7 : Nat} {A : Array Value} (hL : S7 a n c b o h w x7 A W) : S7 a n c b o h w x7 A W.drew := ⟨S6_drew hL.1, hL.2.1, hL.2.2⟩
theorem S7_set {a : Option Addr} {n c b o x j : Nat} {h : HV} {w W : World} {v : Value} {x7 : Nat} {A : Array Value} (hL : S7 a n c b o h w x7 A W) (hx : w.heap.size + 2 ≤ x) (hx2 : x7 ≠ x) : S7 a n c b o h w x7 A (W.setCell ⟨x, j, none⟩ v) :=
  ⟨S6_set (vs := [v]) (oo := j) hL.1 hx, by simpa [World.setCell] using hL.2.1, fun i hi => (set_other hx2).trans (hL.2.2 i hi)⟩
theorem S7_CS {a : Option Addr} {n c b o : Nat} {h : HV} {w W : World} {x7 : Nat} {A : Array Value} (hL : S7 a n c b o h w x7 A W) : CS a n c w W := hL.1.1
theorem setCells_size (b : Nat) (vs : List Value) (o : Nat) (W : World) : W.heap.size ≤ (W.setCells b o vs).heap.size := (below_setCells (B := 0) (a := W) (Nat.zero_le b) vs o W (Below.refl _ _)).size
theorem set_new {X W : World} {zs : Array Value} {t : TypeId} {vs : List Value} (hc : ∀ b o, b < (X.alloc (.cells zs t)).drew.heap.size → W.cell? ⟨b, o, none⟩ = (X.alloc (.cells zs t)).drew.cell? ⟨b, o, none⟩) (hl : vs.length = zs.size) : ∀ j, j < vs.length → (W.setCells X.heap.size 0 vs).cell? ⟨X.heap.size, j, none⟩ = vs.toArray[j]? := by
  intro j hj
  have := World.cell?_setCells_in X.heap.size vs 0 W (fun i hi => by
    rw [Nat.zero_add, hc _ _ (by simp)]
    have e : (X.alloc (.cells zs t)).drew.cell? ⟨X.heap.size, i, none⟩ = zs[i]? := cell_of_row (X.alloc (.cells zs t)) _ _ _ _ _ (heapQ_new rfl)
    rw [e, Array.getElem?_eq_getElem (by omega)]; rfl) j hj
  rw [Nat.zero_add] at this
  rw [this]
  simp [hj]
theorem set_new' {X W : World} {zs A : Array Value} {t : TypeId} {vs : List Value} {k : Nat} (hc : ∀ b o, b < (X.alloc (.cells zs t)).drew.heap.size → W.cell? ⟨b, o, none⟩ = (X.alloc (.cells zs t)).drew.cell? ⟨b, o, none⟩) (hl : vs.length = zs.size) (hk : vs.length = k) (hA : vs.toArray = A) : ∀ j, j < k → (W.setCells X.heap.size 0 vs).cell? ⟨X.heap.size, j, none⟩ = A[j]? := by
  subst hk; subst hA
  exact set_new hc hl
abbrev X9 (w : World) (x9 : Nat) (u v : Int) (wx : World) : Prop := w.heap.size + 2 ≤ x9 ∧ x9 < wx.heap.size ∧ wx.cell? ⟨x9, 0, none⟩ = some (.int .i64 u) ∧ wx.cell? ⟨x9, 1, none⟩ = some (.int .i64 v) ∧ wx.frozen? ⟨x9, 0, none⟩ = false ∧ wx.frozen? ⟨x9, 1, none⟩ = false
theorem X9_step {w W wy : World} {x9 : Nat} {u v : Int} (h : X9 w x9 u v W) (hb : Below W.heap.size W wy) : X9 w x9 u v wy :=
  ⟨h.1, Nat.lt_of_lt_of_le h.2.1 hb.size, ((bcell hb).1 _ _ h.2.1).trans h.2.2.1, ((bcell hb).1 _ _ h.2.1).trans h.2.2.2.1, ((bcell hb).2 _ _ h.2.1).trans h.2.2.2.2.1, ((bcell hb).2 _ _ h.2.1).trans h.2.2.2.2.2⟩
theorem X9_set {w W : World} {x9 : Nat} {u v u' v' : Int} (h : X9 w x9 u v W) : X9 w x9 u' v' ((W.setCell ⟨x9, 0, none⟩ (.int .i64 u')).setCell ⟨x9, 1, none⟩ (.int .i64 v')).drew := by
  obtain ⟨q0, q1, q2, q3, q4, q5⟩ := h
  have e1 : (W.setCell ⟨x9, 0, none⟩ (.int .i64 u')).cell? ⟨x9, 1, none⟩ = some (.int .i64 v) := by go_simp
  refine ⟨q0, by simpa [World.setCell] using q1, ?_, ?_, ?_, ?_⟩
  · show ((W.setCell ⟨x9, 0, none⟩ (.int .i64 u')).setCell ⟨x9, 1, none⟩ (.int .i64 v')).cell? ⟨x9, 0, none⟩ = _
    have e2 : (W.setCell ⟨x9, 0, none⟩ (.int .i64 u')).cell? ⟨x9, 0, none⟩ = some (.int .i64 u') := World.cell?_setCell_same' _ _ _ (by rw [q2]; rfl)
    go_simp
  · exact World.cell?_setCell_same' _ _ _ (by rw [e1]; rfl)
  · show ((W.setCell ⟨x9, 0, none⟩ (.int .i64 u')).setCell ⟨x9, 1, none⟩ (.int .i64 v')).frozen? ⟨x9, 0, none⟩ = _
    rw [World.frozen?_setCell, World.frozen?_setCell]; exact q4
  · show ((W.setCell ⟨x9, 0, none⟩ (.int .i64 u')).setCell ⟨x9, 1, none⟩ (.int .i64 v')).frozen? ⟨x9, 1, none⟩ = _
    rw [World.frozen?_setCell, World.frozen?_setCell]; exact q5
theorem CS_drew {a : Option Addr} {n c : Nat} {w W : World} (hL : CS a n c w W) : CS a n c w W.drew := ⟨hL.1, hL.2.1, hL.2.2.1, hL.2.2.2.1, hL.2.2.2.2.1, hL.2.2.2.2.2.1, hL.2.2.2.2.2.2.1, hL.2.2.2.2.2.2.2.1, hL.2.2.2.2.2.2.2.2.drew⟩
theorem CS_set2 {a : Option Addr} {n c x : Nat} {w W : World} {u v : Value} (hL : CS a n c w W) (hx : w.heap.size + 2 ≤ x) : CS a n c w ((W.setCell ⟨x, 0, none⟩ u).setCell ⟨x, 1, none⟩ v).drew := CS_drew (CS_set (vs := [u, v]) (o := 0) hL hx)
set_option maxRecDepth 100000 in
set_option maxHeartbeats 1000000 in
theorem Common_ok (a : Option Addr) (n c : Nat) (ps : Nat → PR) (ha : Option Addr) (m d : Nat) (hs : Nat → HV) (w : World) (B : Nat) (hBw : B ≤ w.heap.size) (hP : Planes B w a n ps) (hH : Hits B w ha m hs) (hE : allE n ps m hs = 0) (hm0 : 0 < m) (hmd : m ≤ d) (hd : d ≤ maxLen) :
    Calls Try.prog 35 #[setupV a n c, .slice ha m d] w fun e w' => e = .returned (if cH (thOf ps hs) (m - 1) < cL (tlOf ps hs) (m - 1) then .tuple #[.agg #[.int .i64 0, .int .i64 0], .int .i64 5] else .tuple #[.agg #[.int .i64 (cL (tlOf ps hs) (m - 1)), .int .i64 (cH (thOf ps hs) (m - 1))], .int .i64 0]) ∧ Below w.heap.size w w' := by
  have hm : m ≤ 2000 := by
    by_cases h : 2000 < m
    · rw [allE, if_pos h] at hE; cases hE
    · omega
  have hB1 : hitsB n ps m hs = true := by
    cases h : hitsB n ps m hs
    · rw [allE, if_neg (by omega), h] at hE; cases hE
    · rfl
  simp only [hitsB, Bool.and_eq_true, allUpto_iff] at hB1
  obtain ⟨hC, hall⟩ := hB1
  have hk : ∀ i, i < m → ∃ k, k < n ∧ (hs i).plane = (k : Int) ∧ hitB (ps k) (hs i) = true := fun i hi => ofB_yes (hall i hi)
  have HP := Lib.hid hP
  have HH := Lib.hid hH
  have HC := Lib.hid hC
  have HK := Lib.hid hk
  have HE := Lib.hid (all_any a n c ps ha m d hs)
  obtain ⟨b, off, rfl, hbB, hat⟩ := hH.get hm0
  have HAT := Lib.hid hat
  clear hP hH hall hk hat
  have hm1 : ((m : Int) == 0) = false := by simp; omega
  have HLz := Lib.hid (show cL (tlOf ps hs) 0 = tlOf ps hs 0 from rfl)
  have HRz := Lib.hid (show cH (thOf ps hs) 0 = thOf ps hs 0 from rfl)
  have HLs := Lib.hid (fun i => show cL (tlOf ps hs) (i + 1) = if cL (tlOf ps hs) i < tlOf ps hs (i + 1) then tlOf ps hs (i + 1) else cL (tlOf ps hs) i from rfl)
  have HRs := Lib.hid (fun i => show cH (thOf ps hs) (i + 1) = if thOf ps hs (i + 1) < cH (thOf ps hs) i then thOf ps hs (i + 1) else cH (thOf ps hs) i from rfl)
  generalize cL (tlOf ps hs) = CL at *
  generalize cH (thOf ps hs) = CR at *
  go_enter Try.func35, Try.ntmps35
  generalize hga : (some ⟨b, off, none⟩ : Option Addr) = ha at *
  have HA := Lib.hid hga
  clear hga
  go_upto_region 6 with (go_at_call 65; refine (HE.out _ B (by simp; omega) (HP.out.below (((Below.refl B w).alloc hBw _).alloc (by simp; omega) _)) (HH.out.below (((Below.refl B w).alloc hBw _).alloc (by simp; omega) _))).mono ?_; rintro e wy ⟨rfl, hby⟩; rw [hE]; have hL := CS_step CS_start hby; clear hby)
  obtain rfl := HA.out
  obtain ⟨k, hkn, hkp, hkh⟩ := HK.out 0 hm0
  have HKP := Lib.hid hkp
  have HKH := Lib.hid hkh
  have hS0 : S6 a n c b off (hs 0) w wy := ⟨hL, (HAT.out.below (hL.2.2.2.2.2.2.2.2) (by omega)), by omega⟩
  clear hkp hkh hL
  generalize hh0 : hs 0 = h at *
  have HH0 := Lib.hid hh0
  clear hh0
  go_cut [7, 8] from 26 to 33 (fun s7 s8 wx => ∃ x7, s7 = .pointer (some ⟨x7, 0, none⟩) ∧ s8 = .bool true ∧ (w.heap.size + 2 ≤ x7 ∧ x7 < wx.heap.size ∧ ∀ j, j < 16 → wx.cell? ⟨x7, j, none⟩ = (#[.int .i64 (ps k).kind, .int .i64 (ps k).view, .int .i64 (ps k).z, .int .i64 (ps k).first, .int .i64 (ps k).pitch, .int .i64 (ps k).strips, .int .i64 (ps k).spill, .int .i64 (ps k).olo, .int .i64 (ps k).ohi, .int .i64 (ps k).clo, .int .i64 (ps k).chi, .int .i64 (ps k).jitter, .int .i64 (ps k).least, .slice (ps k).da (ps k).dn (ps k).dc, .slice (ps k).ea (ps k).en (ps k).ec, .int .i64 k] : Array Value)[j]?) ∧ S6 a n c b off h w wx)
  case first =>
    have hsz0 := S6_sz hS0
    go_region_held3 (fun w' => (w'.cell? ⟨w.heap.size, 0, none⟩ = some (.slice a n c) ∧ w'.cell? ⟨w.heap.size + 1, 0, none⟩ = some (.int .i64 0) ∧ w'.cell? ⟨w.heap.size + 1, 1, none⟩ = some (.int .i64 0) ∧ w'.frozen? ⟨w.heap.size + 1, 0, none⟩ = false ∧ w'.frozen? ⟨w.heap.size + 1, 1, none⟩ = false ∧ w.heap.size + 2 ≤ w'.heap.size ∧ w.heap.size < w'.heap.size ∧ w.heap.size + 1 < w'.heap.size ∧ Below w.heap.size w w') ∧ (w'.cell? ⟨b, off, none⟩ = some (.int .i64 h.plane) ∧ w'.cell? ⟨b, off + 1, none⟩ = some (.int .i64 h.channel) ∧ w'.cell? ⟨b, off + 2, none⟩ = some (.int .i64 h.many) ∧ w'.cell? ⟨b, off + 3, none⟩ = some (.int .i64 h.drift) ∧ w'.cell? ⟨b, off + 4, none⟩ = some (.int .i64 h.charge) ∧ w'.cell? ⟨b, off + 5, none⟩ = some (.int .i64 h.time)) ∧ b < w.heap.size) (first | (repeat (first | (with_reducible assumption) | (with_reducible refine S6_drew ?_) | (with_reducible refine S6_alloc ?_ _) | (with_reducible refine S6_set ?_ (S6_sz (by with_reducible assumption)))))) (first | (go_at_call 50; refine (of_in a n c ps h _ B (by have hq := S6_sz (by with_reducible assumption); omega) (HP.out.below ((S6_below (by with_reducible assumption)).mono hBw)) HC.out k hkn HKP.out).mono ?_; rintro e wz ⟨rfl, hbz⟩; rw [HKH.out]; have hsy := S6_step (by with_reducible assumption) hbz; obtain ⟨hcy, hfy⟩ := bcell hbz; (try have hk1 := QS_lt1 hbz); (try have hk2 := QS_lt1d hbz); clear hbz))
    all_goals (go_wp2_with fail)
    all_goals go_meet
    · refine ⟨wz.heap.size, rfl, rfl, ⟨S6_sz hsy, by simp, fun j hj => ?_⟩, ?_⟩
      · exact cell_of_row _ _ _ _ _ _ (heapQ_new rfl)
      · with_reducible exact S6_alloc hsy _
    · refine ⟨wy.heap.size, rfl, rfl, ⟨hsz0, ?_, ?_⟩, ?_⟩
      · with_reducible exact Nat.lt_of_lt_of_le hk2 (setCells_size _ _ _ _)
      · exact set_new' hcy rfl rfl rfl
      · with_reducible exact S6_set hsy hsz0
  clear hS0
  obtain ⟨x7, rfl, rfl, ⟨h71, h72, h73⟩, hS6⟩ := hcut
  obtain ⟨tl, htl⟩ : ∃ t, t = timeLo (ps k) h := ⟨_, rfl⟩
  obtain ⟨th, hth⟩ : ∃ t, t = timeHi (ps k) h := ⟨_, rfl⟩
  have HTL := Lib.hid htl
  have HTH := Lib.hid hth
  have HSh := Lib.hid (properB_shaped (checkB_plane HC.out hkn))
  have HTm := Lib.hid (hitB_pre' HKH.out).2.2.2
  clear htl hth
  go_upto_region 7 with (fail)
  go_cut [9] from 34 to 38 (fun s9 wx => ∃ x9, s9 = .pointer (some ⟨x9, 0, none⟩) ∧ (w.heap.size + 2 ≤ x9 ∧ x9 < wx.heap.size ∧ wx.cell? ⟨x9, 0, none⟩ = some (.int .i64 tl) ∧ wx.cell? ⟨x9, 1, none⟩ = some (.int .i64 th) ∧ wx.frozen? ⟨x9, 0, none⟩ = false ∧ wx.frozen? ⟨x9, 1, none⟩ = false) ∧ CS a n c w wx)
  case first =>
    have hS0 : S7 a n c b off h w x7 (#[.int .i64 (ps k).kind, .int .i64 (ps k).view, .int .i64 (ps k).z, .int .i64 (ps k).first, .int .i64 (ps k).pitch, .int .i64 (ps k).strips, .int .i64 (ps k).spill, .int .i64 (ps k).olo, .int .i64 (ps k).ohi, .int .i64 (ps k).clo, .int .i64 (ps k).chi, .int .i64 (ps k).jitter, .int .i64 (ps k).least, .slice (ps k).da (ps k).dn (ps k).dc, .slice (ps k).ea (ps k).en (ps k).ec, .int .i64 k] : Array Value) wc := ⟨hS6, h72, h73⟩
    have hsz0 := S6_sz hS6
    have h7n : x7 ≠ wc.heap.size := Nat.ne_of_lt h72
    clear hS6 h72 h73
    go_region_held3 (fun w' => ((w'.cell? ⟨w.heap.size, 0, none⟩ = some (.slice a n c) ∧ w'.cell? ⟨w.heap.size + 1, 0, none⟩ = some (.int .i64 0) ∧ w'.cell? ⟨w.heap.size + 1, 1, none⟩ = some (.int .i64 0) ∧ w'.frozen? ⟨w.heap.size + 1, 0, none⟩ = false ∧ w'.frozen? ⟨w.heap.size + 1, 1, none⟩ = false ∧ w.heap.size + 2 ≤ w'.heap.size ∧ w.heap.size < w'.heap.size ∧ w.heap.size + 1 < w'.heap.size ∧ Below w.heap.size w w') ∧ (w'.cell? ⟨b, off, none⟩ = some (.int .i64 h.plane) ∧ w'.cell? ⟨b, off + 1, none⟩ = some (.int .i64 h.channel) ∧ w'.cell? ⟨b, off + 2, none⟩ = some (.int .i64 h.many) ∧ w'.cell? ⟨b, off + 3, none⟩ = some (.int .i64 h.drift) ∧ w'.cell? ⟨b, off + 4, none⟩ = some (.int .i64 h.charge) ∧ w'.cell? ⟨b, off + 5, none⟩ = some (.int .i64 h.time)) ∧ b < w.heap.size) ∧ x7 < w'.heap.size ∧ ∀ j, j < 16 → w'.cell? ⟨x7, j, none⟩ = (#[.int .i64 (ps k).kind, .int .i64 (ps k).view, .int .i64 (ps k).z, .int .i64 (ps k).first, .int .i64 (ps k).pitch, .int .i64 (ps k).strips, .int .i64 (ps k).spill, .int .i64 (ps k).olo, .int .i64 (ps k).ohi, .int .i64 (ps k).clo, .int .i64 (ps k).chi, .int .i64 (ps k).jitter, .int .i64 (ps k).least, .slice (ps k).da (ps k).dn (ps k).dc, .slice (ps k).ea (ps k).en (ps k).ec, .int .i64 k] : Array Value)[j]?) (first | (repeat (first | (with_reducible assumption) | (with_reducible refine S7_drew ?_) | (with_reducible refine S7_alloc ?_ _) | (with_reducible refine S7_set ?_ hsz0 h7n)))) (first | (go_at_call 52; refine (times_any (ps k) k h _ HSh.out HTm.out).mono ?_; rintro e wz ⟨rfl, hbz⟩; rw [← HTL.out, ← HTH.out]; have hsy := S7_step (by with_reducible assumption) hbz; obtain ⟨hcy, hfy⟩ := bcell hbz; (try have hk1 := QS_lt1 hbz); (try have hk2 := QS_lt1d hbz); clear hbz))
    all_goals (go_wp2_with fail)
    all_goals go_meet
    · exact ⟨wz.heap.size, rfl, ⟨S6_sz hsy.1, by simp, by go_simp, by go_simp, by go_simp, by go_simp⟩, (S6_alloc hsy.1 _).1⟩
    · refine ⟨wc.heap.size, rfl, ⟨hsz0, by simpa [World.setCell] using hk2, ?_, ?_, ?_, ?_⟩, by with_reducible exact S7_CS (by with_reducible assumption)⟩
      all_goals (try go_simp)
      all_goals (refine World.cell?_setCell_same' _ _ _ ?_; go_simp)
  clear hS6 h71 h72 h73
  obtain ⟨x9, rfl, hx9, hL⟩ := hcut
  have HX9 := Lib.hid hx9
  have HL := Lib.hid hL
  clear hx9 hL
  have hm2 : (1 : Int) ≤ (m : Int) := by omega
  have hmd2 : (m : Int) ≤ (d : Int) := by omega
  unfold maxLen at hd
  go_upto_region 8 with (fail)
  go_cut [40, 41, 42] from 39 to 39 (fun s40 s41 s42 wx => ∃ sa sc, s40 = .slice sa (m - 1) sc ∧ (0 < m - 1 → sa = some ⟨b, off + 6, none⟩) ∧ s41 = .int .i64 ((m - 1 : Nat) : Int) ∧ s42 = .int .i64 0 ∧ wx = wc)
  case first =>
    by_cases hd1 : d = 1
    · obtain rfl : m = 1 := by omega
      subst hd1
      go_wp2_with fail
      go_meet
      exact ⟨_, _, rfl, (fun h => by omega), rfl, rfl, by trivial⟩
    · have hd2 : ¬ (d : Int) - 1 = 0 := by omega
      have hd3 : ¬ d - 1 = 0 := by omega
      go_wp2_with fail
      go_meet
      exact ⟨_, _, rfl, (fun h => by first | rfl | simp), rfl, rfl, by trivial⟩
  obtain ⟨sa, sc, rfl, hsa, rfl, rfl, rfl⟩ := hcut
  have HSA := Lib.hid hsa
  clear hsa
  have hkk : (hs 0).plane.toNat = k := by rw [HH0.out, HKP.out]; simp
  have HL0 := Lib.hid (show CL 0 = tl by rw [HLz.out, tlOf, hkk, HH0.out, HTL.out])
  have HR0 := Lib.hid (show CR 0 = th by rw [HRz.out, thOf, hkk, HH0.out, HTH.out])
  clear hkk
  go_wp2
  go_loopw [42] (fun t wr => ∃ i : Nat, i ≤ m - 1 ∧ t = .int .i64 i ∧ X9 w x9 (CL i) (CR i) wr ∧ CS a n c w wr) (fun t _ => (m - 1) - (intOf t).toNat)
  case atStart => exact ⟨0, Nat.zero_le _, rfl, by rw [HL0.out, HR0.out]; exact HX9.out, HL.out⟩
  case round =>
    clear HX9 HL
    obtain ⟨i, hi, rfl, hx9, hL⟩ := hrel
    by_cases hlt : i < m - 1
    · obtain ⟨k2, hk2n, hkp2, hkh2⟩ := HK.out (i + 1) (by omega)
      have hsa := HSA.out (by omega)
      subst hsa
      obtain ⟨b', off', heq, hb'B, hat2⟩ := (HH.out.below (hL.2.2.2.2.2.2.2.2.mono hBw)).get (show i + 1 < m by omega)
      obtain ⟨rfl, rfl⟩ : b = b' ∧ off = off' := by simpa using heq
      have hls := HLs.out i
      have hrs := HRs.out i
      have htl2 : tlOf ps hs (i + 1) = timeLo (ps k2) (hs (i + 1)) := by rw [tlOf, hkp2, Int.toNat_natCast]
      have hth2 : thOf ps hs (i + 1) = timeHi (ps k2) (hs (i + 1)) := by rw [thOf, hkp2, Int.toNat_natCast]
      generalize tlOf ps hs (i + 1) = t2 at *
      generalize thOf ps hs (i + 1) = r2 at *
      generalize hgg : hs (i + 1) = g at *
      have HTL2 := Lib.hid htl2
      have HTH2 := Lib.hid hth2
      have HKP2 := Lib.hid hkp2
      have HKH2 := Lib.hid hkh2
      have HSh2 := Lib.hid (properB_shaped (checkB_plane HC.out hk2n))
      have HTm2 := Lib.hid (hitB_pre' hkh2).2.2.2
      have HLS := Lib.hid hls
      have HRS := Lib.hid hrs
      obtain ⟨y0, y1, y2, y3, y4, y5⟩ := hat2
      have hoff : off + (i + 1) * 6 = off + 6 + i * 6 := by omega
      rw [hoff] at y0 y1 y2 y3 y4 y5
      clear hgg htl2 hth2 hkp2 hkh2 hls hrs hoff heq
      have hbz : b < wr.heap.size := by have := hL.2.2.2.2.2.1; omega
      generalize CL i = V at *
      generalize CR i = R at *
      have hLb := hL.2.2.2.2.2.2.2.2
      have hLs := hL.2.2.2.2.2.1
      go_upto_region 12 with (go_at_call 50; refine (of_in a n c ps g _ B (by simp; omega) (HP.out.below ((hLb.alloc (by omega) _).mono hBw)) HC.out k2 hk2n HKP2.out).mono ?_; rintro e wz ⟨rfl, hbz2⟩; rw [HKH2.out]; have hLz := CS_step (CS_step hL ((Below.refl _ _).alloc (Nat.le_refl _) _)) hbz2; have hxz := X9_step (X9_step hx9 ((Below.refl _ _).alloc (Nat.le_refl _) _)) hbz2; have hrow := row_step (x := wr.heap.size) (A := #[.int .i64 g.plane, .int .i64 g.channel, .int .i64 g.many, .int .i64 g.drift, .int .i64 g.charge, .int .i64 g.time]) (by simp) (fun j => cell_of_row _ _ _ _ _ _ (heapQ_new rfl)) hbz2; obtain ⟨hrz, hrow⟩ := hrow; clear hbz2 hL hx9)
      go_cut [14] from 52 to 54 (fun s14 wx => ∃ x14, s14 = .pointer (some ⟨x14, 0, none⟩) ∧ (x9 ≠ x14 ∧ x14 < wx.heap.size ∧ wx.cell? ⟨x14, 0, none⟩ = some (.int .i64 t2) ∧ wx.cell? ⟨x14, 1, none⟩ = some (.int .i64 r2)) ∧ X9 w x9 V R wx ∧ CS a n c w wx)
      case first =>
        go_wp2_with (go_at_call 52; refine (times_any (ps k2) k2 g _ HSh2.out HTm2.out).mono ?_; rintro e wt ⟨rfl, hbt⟩; rw [← HTL2.out, ← HTH2.out]; have hLt := CS_step (CS_step hLz ((Below.refl _ _).alloc (Nat.le_refl _) _)) hbt; have hxt := X9_step (X9_step hxz ((Below.refl _ _).alloc (Nat.le_refl _) _)) hbt; clear hbt hLz hxz hrow hrz)
        go_meet
        refine ⟨wt.heap.size, rfl, ⟨Nat.ne_of_lt hxt.2.1, by simp, by go_simp, by go_simp⟩, ?_, ?_⟩
        · with_reducible exact X9_step hxt ((Below.refl _ _).alloc (Nat.le_refl _) _)
        · with_reducible exact CS_step hLt ((Below.refl _ _).alloc (Nat.le_refl _) _)
      clear hLz hxz hrow hrz hLb hLs hbz y0 y1 y2 y3 y4 y5
      obtain ⟨x14, rfl, ⟨hne, h14, z0, z1⟩, ⟨q0, q1, q2, q3, q4, q5⟩, hL⟩ := hcut
      have HL2 := Lib.hid hL
      clear hL
      go_upto_region 13 with (fail)
      go_region
      go_wp2
      go_roundw
      case rel =>
        refine ⟨i + 1, by omega, by go_num, ?_, ?_⟩
        · rw [HLS.out, HRS.out]
          exact X9_set ⟨q0, q1, q2, q3, q4, q5⟩
        · exact CS_set2 HL2.out q0
      case measure => simp [intOf]; omega
    · obtain rfl : i = m - 1 := by omega
      clear HLs HRs HL0 HR0
      obtain ⟨q0, q1, q2, q3, q4, q5⟩ := hx9
      obtain ⟨l0, l1, l2, l3, l4, l5, l6, l7, l8⟩ := hL
      by_cases hgt : CR (m - 1) < CL (m - 1)
      · go_wp2
        refine bodyPost_ret (v := .tuple #[.agg #[.int .i64 0, .int .i64 0], .int .i64 5]) ?_ rfl ⟨by first | rfl | rw [if_pos hgt], ?_⟩
        · simp [results, Try.results35, go_sem, l1, l2]
        · exact (l8.setCell (p := ⟨_, _, _⟩) (by simp) _).setCell (p := ⟨_, _, _⟩) (by simp) _
      · go_wp2
        refine bodyPost_ret (v := .tuple #[.agg #[.int .i64 (CL (m - 1)), .int .i64 (CR (m - 1))], .int .i64 0]) ?_ rfl ⟨by first | rfl | rw [if_neg hgt], ?_⟩
        · simp [results, Try.results35, go_sem, l1, l2]
        · exact (l8.setCell (p := ⟨_, _, _⟩) (by simp) _).setCell (p := ⟨_, _, _⟩) (by simp) _
end Go.Proofs.Ytgcepjminlapiaa
