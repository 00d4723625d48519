/- Texts put together: UnkLaw, FreeLaw, RefRp. -/
import Derived.Test.YtlfegmjdheddjaaDoorGhA
import Derived.Test.YtlfegmjdheddjaaDoorEiLaw
import Derived.Test.YtlfegmjdheddjaaDoorRefAg
import Derived.Test.YtlfegmjdheddjaaDoorGfA
import Derived.Test.YtlfegmjdheddjaaDoorGsA
namespace Go.Proofs.YtlfegmjdheddjaaDoor
open Go.RowKit
set_option linter.unusedVariables false
set_option linter.unusedSimpArgs false
theorem setB_ofL {n : Nat} {L : List Int} (h1 : L.Pairwise (· < ·)) (h2 : ∀ x ∈ L, 0 ≤ x ∧ x < (n : Int)) : setB n L.length (fOf L) = true := by
  unfold setB
  refine allUpto_true (fun i hi => ?_)
  unfold setAt
  have e : ∀ j (hj : j < L.length), fOf L j = L[j] := fun j hj => by unfold fOf; rw [List.getD_eq_getElem?_getD, List.getElem?_eq_getElem hj]; rfl
  have h3 := h2 _ (List.getElem_mem hi)
  rw [Bool.and_eq_true, Bool.or_eq_true, inB_iff, beq_iff_eq, decide_eq_true_eq, e i hi]
  refine ⟨by omega, ?_⟩
  by_cases e0 : i = 0
  · exact .inl e0
  · right
    rw [e (i - 1) (by omega)]
    exact List.pairwise_iff_getElem.1 h1 (i - 1) i (by omega) hi (by omega)
/-- a field with another density of a cell -/
def repF (f : Nat → Int) (c : Nat) (d : Int) (i : Nat) : Int := if i = c then d else f i
theorem sum_rep (g f : Nat → Int) (c : Nat) (d : Int) : ∀ n, sumN (fun i => g i * repF f c d i) n = sumN (fun i => g i * f i) n + (if c < n then g c * (d - f c) else 0)
  | 0 => by simp [sumN]
  | n + 1 => by
    rw [sumN, sumN, sum_rep g f c d n]
    unfold repF
    by_cases e : n = c
    · subst e
      rw [if_pos rfl, if_neg (by omega), if_pos (by omega), Int.mul_sub]
      omega
    · rw [if_neg e]
      by_cases h : c < n
      · rw [if_pos h, if_pos (by omega)]; omega
      · rw [if_neg h, if_neg (by omega)]; omega
section
variable {n m : Nat} {ss : Nat → SV} {bs : Nat → BM}
theorem of_rep (hS : Shape n ss m bs) {i : Nat} (hi : i < m) {f : Nat → Int} {c : Nat} (hc : c < n) (d : Int) : ofN (bs i) (repF f c d) = ofN (bs i) f + (bs i).w c * (d - f c) := by
  rw [ofN_dense (hS.set i hi), ofN_dense (hS.set i hi), sum_rep, if_pos hc]
theorem sumsOf_of (hS : Shape n ss m bs) {i : Nat} (hi : i < m) {g : List Int} (hg : g.length = n) : sumsOf bs g i = ofN (bs i) (fOf g) := by
  rw [ofN_dense (hS.set i hi), sumsOf, hg]; rfl
/-- a free cell can have any density of its span -/
theorem free_rep (hS : Shape n ss m bs) {g : List Int} (hg : g ∈ allF n ss m bs) {c : Nat} (hc : c < n) (ho : openAll ss m bs g c = true) {d : Int} (h1 : (ss c).lo ≤ d) (h2 : d ≤ (ss c).hi) : agreesB m bs (repF (fOf g) c d) = true := by
  obtain ⟨ha, hl, hb⟩ := allF_mem.1 hg
  refine agreesB_yes (fun i hi => ?_)
  have h3 := allUpto_iff.1 ha i hi
  have h4 := allUpto_iff.1 ho i hi
  have h5 := (hS.w hi c).1
  rw [inB_iff] at h3 ⊢
  rw [of_rep hS hi hc]
  rw [Bool.not_eq_true', sumsOf_of hS hi hl] at h4
  unfold bindB at h4
  generalize hW : (bs i).w c = W at *
  by_cases e : W = 0
  · rw [e]; omega
  · rw [decide_eq_true (by omega : 0 < W), Bool.true_and, Bool.or_eq_false_iff] at h4
    have h6 := of_decide_eq_false h4.1
    have h7 := of_decide_eq_false h4.2
    have h8 : 0 ≤ W * (d - (ss c).lo) := Int.mul_nonneg h5 (by omega)
    have h9 : 0 ≤ W * ((ss c).hi - d) := Int.mul_nonneg h5 (by omega)
    rw [Int.mul_sub] at *
    omega
/-- the same, for a field that somebody proposes -/
theorem free_own (hS : Shape n ss m bs) {c : Nat} (hc : c < n) (hf : freeC ss m bs (allF n ss m bs) c = true) {f : Nat → Int} (hb : inBox n ss f) (ha : agreesB m bs f = true) {d : Int} (h1 : (ss c).lo ≤ d) (h2 : d ≤ (ss c).hi) : agreesB m bs (repF f c d) = true := by
  have hm := own_all hS hb ha
  unfold freeC at hf
  rw [Bool.and_eq_true, List.all_eq_true] at hf
  have := free_rep hS hm hc (hf.2 _ hm) h1 h2
  rw [← this]
  refine agreesB_congr hS (fun i hi => ?_)
  unfold repF
  by_cases e : i = c
  · rw [if_pos e, if_pos e]
  · rw [if_neg e, if_neg e, fOf_list hi]
/-- the bounds of a free cell are its span -/
theorem free_bnd (hS : Shape n ss m bs) (hA : allF n ss m bs ≠ []) {c : Nat} (hc : c < n) (hf : freeC ss m bs (allF n ss m bs) c = true) : (bnd (fun f => fOf f c) (allF n ss m bs)).lo = (ss c).lo ∧ (bnd (fun f => fOf f c) (allF n ss m bs)).hi = (ss c).hi := by
  have hB := bnd_is (fun f => fOf f c) hA
  have hsp := hS.span c hc
  have key : ∀ d, (ss c).lo ≤ d → d ≤ (ss c).hi → (bnd (fun f => fOf f c) (allF n ss m bs)).lo ≤ d ∧ d ≤ (bnd (fun f => fOf f c) (allF n ss m bs)).hi := fun d h1 h2 => by
    obtain ⟨g, hg, _⟩ := hB.lo
    obtain ⟨hb, ha⟩ := all_field hg
    have h3 := free_own hS hc hf hb ha h1 h2
    have h4 := own_all hS (f := repF (fOf g) c d) (fun i hi => by
      unfold repF
      by_cases e : i = c
      · subst e; rw [if_pos rfl]; exact ⟨h1, h2⟩
      · rw [if_neg e]; exact hb i hi) h3
    have h5 := hB.all _ h4
    try dsimp only at h5
    rw [fOf_list hc] at h5
    unfold repF at h5
    rw [if_pos rfl] at h5
    exact h5
  have k1 := key _ (Int.le_refl _) hsp.2.1
  have k2 := key _ hsp.2.1 (Int.le_refl _)
  obtain ⟨g, hg, e1⟩ := hB.lo
  obtain ⟨g2, hg2, e2⟩ := hB.hi
  have b1 := (all_field hg).1 c hc
  have b2 := (all_field hg2).1 c hc
  try dsimp only at e1 e2
  omega
/-- whether a beam has a cell -/
def hasC (b : BM) (k : Nat) (c : Int) : Bool := (List.range k).any fun j => b.cs j == c
def hasB (bs : Nat → BM) (m : Nat) (c : Int) : Bool := (List.range m).any fun i => hasC (bs i) (bs i).cn c
theorem hasC_succ {b : BM} {k : Nat} {c : Int} : hasC b (k + 1) c = (hasC b k c || b.cs k == c) := by
  unfold hasC
  rw [List.range_succ, List.any_append]
  simp
theorem hasB_succ {k : Nat} {c : Int} : hasB bs (k + 1) c = (hasB bs k c || hasC (bs k) (bs k).cn c) := by
  unfold hasB
  rw [List.range_succ, List.any_append]
  simp
/-- a cell that no beam has is free, if it has more than one density -/
theorem free_bare {l : List (List Int)} {c : Nat} (h : hasB bs m (c : Int) = false) (hlt : (ss c).lo < (ss c).hi) : freeC ss m bs l c = true := by
  unfold freeC
  rw [decide_eq_true hlt, Bool.true_and, List.all_eq_true]
  intro f _
  unfold openAll
  refine allUpto_true (fun i hi => ?_)
  have hw : (bs i).w c = 0 := by
    unfold BM.w
    refine wUp_zero _ _ (fun j hj e => ?_)
    unfold hasB at h
    rw [List.any_eq_false] at h
    refine h i (List.mem_range.2 hi) ?_
    unfold hasC
    rw [List.any_eq_true]
    exact ⟨j, List.mem_range.2 hj, by rw [beq_iff_eq]; exact e⟩
  unfold bindB
  rw [hw]
  simp
/-- the free cells as numbers -/
def frI (g : Nat → Bool) (n : Nat) : List Int := (freeL g n).map fun (i : Nat) => (i : Int)
theorem frI_len {g : Nat → Bool} {n : Nat} : (frI g n).length = (freeL g n).length := by simp [frI]
theorem frI_set {g : Nat → Bool} {n : Nat} : setB n (frI g n).length (fOf (frI g n)) = true := by
  refine setB_ofL ?_ ?_
  · unfold frI freeL
    rw [List.pairwise_map]
    have h1 : ((List.range n).filter g).Pairwise (· < ·) := List.pairwise_lt_range.sublist List.filter_sublist
    exact h1.imp fun h => by omega
  · intro x hx
    unfold frI freeL at hx
    obtain ⟨i, hi, rfl⟩ := List.mem_map.1 hx
    have := List.mem_range.1 (List.mem_filter.1 hi).1
    omega
/-- whether a number is among the first ones of a list -/
def among (f : Nat → Int) (k : Nat) (c : Int) : Bool := (List.range k).any fun j => f j == c
theorem among_succ {f : Nat → Int} {k : Nat} {c : Int} : among f (k + 1) c = (among f k c || f k == c) := by
  unfold among
  rw [List.range_succ, List.any_append]
  simp
theorem among_free {g : Nat → Bool} {n c : Nat} (hc : c < n) : among (fOf (frI g n)) (freeL g n).length (c : Int) = g c := by
  rw [Bool.eq_iff_iff]
  unfold among
  rw [List.any_eq_true]
  have e : ∀ j (hj : j < (freeL g n).length), fOf (frI g n) j = (((freeL g n)[j] : Nat) : Int) := fun j hj => by
    unfold fOf frI
    rw [List.getD_eq_getElem?_getD, List.getElem?_map, List.getElem?_eq_getElem hj]
    rfl
  constructor
  · rintro ⟨j, hj, h⟩
    have hj := List.mem_range.1 hj
    rw [beq_iff_eq, e j hj] at h
    have h2 : (freeL g n)[j] ∈ freeL g n := List.getElem_mem hj
    rw [show (freeL g n)[j] = c by omega] at h2
    unfold freeL at h2
    exact (List.mem_filter.1 h2).2
  · intro h
    have h2 : c ∈ freeL g n := List.mem_filter.2 ⟨List.mem_range.2 hc, h⟩
    obtain ⟨j, hj, h3⟩ := List.mem_iff_getElem.1 h2
    exact ⟨j, List.mem_range.2 hj, by rw [beq_iff_eq, e j hj, h3]⟩
end
end Go.Proofs.YtlfegmjdheddjaaDoor
namespace Go.Proofs.YtlfegmjdheddjaaDoor
open Go.RowKit
set_option linter.unusedVariables false
set_option linter.unusedSimpArgs false
/-- whether a field agrees with whatever density of a cell from the least one on, k densities being tried -/
def anyD (ss : Nat → SV) (m : Nat) (bs : Nat → BM) (g : List Int) (c k : Nat) : Bool := allUpto k (fun j => agreesB m bs (repF (fOf g) c ((ss c).lo + (j : Int))))
/-- the same for the first i fields of a list -/
def anyL (ss : Nat → SV) (m : Nat) (bs : Nat → BM) (l : List (List Int)) (c i : Nat) : Bool := allUpto i (fun q => anyD ss m bs (l.getD q []) c ((ss c).hi - (ss c).lo + 1).toNat)
/-- whether the reference calls a cell free -/
def refC (ss : Nat → SV) (m : Nat) (bs : Nat → BM) (l : List (List Int)) (c : Nat) : Bool := decide ((ss c).lo < (ss c).hi) && anyL ss m bs l c l.length
section
variable {n m : Nat} {ss : Nat → SV} {bs : Nat → BM}
theorem anyD_open (hS : Shape n ss m bs) {g : List Int} (hg : g ∈ allF n ss m bs) {c : Nat} (hc : c < n) : anyD ss m bs g c ((ss c).hi - (ss c).lo + 1).toNat = openAll ss m bs g c := by
  have hsp := hS.span c hc
  rw [Bool.eq_iff_iff]
  unfold anyD
  rw [allUpto_iff]
  constructor
  · intro h
    obtain ⟨ha, hl, hb⟩ := allF_mem.1 hg
    unfold openAll
    refine allUpto_true (fun i hi => ?_)
    have h0 := h 0 (by omega)
    have h1 := h ((ss c).hi - (ss c).lo).toNat (by omega)
    rw [show (ss c).lo + ((0 : Nat) : Int) = (ss c).lo by omega] at h0
    rw [show (ss c).lo + ((((ss c).hi - (ss c).lo).toNat : Nat) : Int) = (ss c).hi by omega] at h1
    have k0 := allUpto_iff.1 h0 i hi
    have k1 := allUpto_iff.1 h1 i hi
    rw [inB_iff, of_rep hS hi hc] at k0 k1
    have hw := (hS.w hi c).1
    unfold bindB
    rw [sumsOf_of hS hi hl]
    generalize (bs i).w c = W at *
    by_cases e : W = 0
    · subst e; simp
    · rw [decide_eq_true (by omega : 0 < W), Bool.true_and, decide_eq_false, decide_eq_false]
      · rfl
      · omega
      · rw [Int.mul_sub] at *
        omega
  · intro h j hj
    exact free_rep hS hg hc h (by omega) (by omega)
theorem refC_eq (hS : Shape n ss m bs) {c : Nat} (hc : c < n) : refC ss m bs (allF n ss m bs) c = freeC ss m bs (allF n ss m bs) c := by
  unfold refC freeC
  congr 1
  rw [Bool.eq_iff_iff]
  unfold anyL
  rw [allUpto_iff, List.all_eq_true]
  have e : ∀ (l : List (List Int)) q (hq : q < l.length), l.getD q [] = l[q] := fun l q hq => by rw [List.getD_eq_getElem?_getD, List.getElem?_eq_getElem hq]; rfl
  constructor
  · intro h g hg
    obtain ⟨q, hq, rfl⟩ := List.mem_iff_getElem.1 hg
    have := h q hq
    rw [e _ q hq, anyD_open hS (List.getElem_mem hq) hc] at this
    exact this
  · intro h q hq
    rw [e _ q hq, anyD_open hS (List.getElem_mem hq) hc]
    exact h _ (List.getElem_mem hq)
theorem freeL_congr {g h : Nat → Bool} : ∀ k, (∀ c, c < k → g c = h c) → freeL g k = freeL h k
  | 0, _ => rfl
  | k + 1, e => by rw [freeL_succ, freeL_succ, freeL_congr k (fun c hc => e c (by omega)), e k (by omega)]
end
theorem anyD_zero {ss : Nat → SV} {m : Nat} {bs : Nat → BM} {g : List Int} {c : Nat} : anyD ss m bs g c 0 = true := by unfold anyD; exact allUpto_true (fun j h => by omega)
theorem anyD_succ {ss : Nat → SV} {m : Nat} {bs : Nat → BM} {g : List Int} {c k : Nat} : anyD ss m bs g c (k + 1) = (anyD ss m bs g c k && agreesB m bs (repF (fOf g) c ((ss c).lo + (k : Int)))) := by unfold anyD; rw [allUpto_succ]
theorem anyL_zero {ss : Nat → SV} {m : Nat} {bs : Nat → BM} {l : List (List Int)} {c : Nat} : anyL ss m bs l c 0 = true := by unfold anyL; exact allUpto_true (fun j h => by omega)
theorem anyL_succ {ss : Nat → SV} {m : Nat} {bs : Nat → BM} {l : List (List Int)} {c i : Nat} : anyL ss m bs l c (i + 1) = (anyL ss m bs l c i && anyD ss m bs (l.getD i []) c ((ss c).hi - (ss c).lo + 1).toNat) := by unfold anyL; rw [allUpto_succ]
theorem anyL_stop {ss : Nat → SV} {m : Nat} {bs : Nat → BM} {l : List (List Int)} {c i : Nat} (h : anyL ss m bs l c i = false) : ∀ j, i ≤ j → anyL ss m bs l c j = false := fun j hj => by
  induction j with
  | zero => rw [show i = 0 by omega, anyL_zero] at h; cases h
  | succ j ih =>
    by_cases e : i = j + 1
    · subst e; exact h
    · rw [anyL_succ, ih (by omega)]; rfl
end Go.Proofs.YtlfegmjdheddjaaDoor
namespace Go.Proofs.YtlfegmjdheddjaaDoor
open Go.RowKit
set_option linter.unusedVariables false
set_option linter.unusedSimpArgs false
theorem iC_cells {w : World} {b off n : Nat} {f : Nat → Int} (hc : ∀ i, i < n → w.cell? ⟨b, off + i, none⟩ = some (.int .i64 (f i))) : ∀ j u, (iC f n)[j]? = some u → w.cell? ((⟨b, off, none⟩ : Addr).add j) = some u := by
  intro j u h
  have hj : j < n := by
    have h1 := (List.getElem?_eq_some_iff.1 h).1
    rwa [iC_len] at h1
  rw [iC_get hj] at h
  injection h with h
  subst h
  rw [addr_add]
  exact hc j hj
theorem iC_set {f : Nat → Int} {n c : Nat} {d : Int} (hc : c < n) : (iC f n).set c (.int .i64 d) = iC (repF f c d) n := by
  apply List.ext_getElem?
  intro j
  by_cases hj : j < n
  · by_cases e : j = c
    · subst e
      rw [List.getElem?_set_self (by rw [iC_len]; exact hj), iC_get hj]
      simp [repF]
    · rw [List.getElem?_set_ne (by omega), iC_get hj, iC_get hj]
      simp [repF, e]
  · rw [List.getElem?_eq_none_iff.2 (by simp [iC_len]; omega), List.getElem?_eq_none_iff.2 (by rw [iC_len]; omega)]
set_option maxRecDepth 100000 in
set_option maxHeartbeats 1000000 in
theorem r8Replaced_any (fa : Option Addr) (n fc : Nat) (f : Nat → Int) (k : Nat) (d : Int) (hk : k < n) (hn : n ≤ 60) (w : World) (hF : Ints w.heap.size w fa n f) :
    Calls Tryd.prog 24 #[.slice fa n fc, .int .i64 (k : Int), .int .i64 d] w fun e w' => (∃ ga gc, e = .returned (.slice ga n gc) ∧ Ints w'.heap.size w' ga n (repF f k d)) ∧ Below w.heap.size w w' := by
  obtain ⟨b, off, rfl, hbz, _⟩ := hF.get hk
  have hcell : ∀ i, i < n → w.cell? ⟨b, off + i, none⟩ = some (.int .i64 (f i)) := by
    rcases hF with h | ⟨b2, off2, h1, _, h3⟩
    · omega
    · injection h1 with h1
      injection h1 with e1 e2
      subst e1 e2
      exact h3
  have HSC := Lib.hid (iC_cells hcell)
  have hkn : (k : Int) < (n : Int) := by omega
  obtain ⟨i0, hi0', hz0, hz1, hz2⟩ := info_parts info_int
  have hb63 : 0 + n ≤ maxLen := by unfold maxLen; omega
  have hb47 : (0 + n) * 8 ≤ 140737488355328 := by omega
  clear hF hcell
  go_enter Tryd.func24, Tryd.ntmps24
  go_upto_region 1 with (fail)
  go_upto_region 2 with (at_builtin; refine wpList_append_lies _ rfl _ _ 38 rfl w.heap.size 3 i0 (.int .i64 0) 1 8 Tryd.underlying38 hi0' hz0 hz1 hz2 rfl (by decide) (.slice none 0 0) 0 [] rfl (World.ownsRow_nil _ _ _ _) ⟨b, off, none⟩ n fc (iC f n) rfl (by rw [iC_len, Nat.mul_one]) HSC.out iC_one (by omega) hb63 hb47 (Nat.le_refl _) _ rfl ?_; intro g cap W2 hown hgrow hat hlt)
  rw [Nat.zero_add, List.nil_append] at hown
  try rw [Nat.zero_add] at hown
  have hB2 : Below w.heap.size w W2 := ⟨hgrow.os, hgrow.tape, hgrow.output, hgrow.size, fun b hb => hgrow.block b hb (by simp [Value.ownBlock])⟩
  have hgV : w.heap.size ≤ g := by
    rcases hat with h | h
    · cases h
    · omega
  have f0 := (hown.cellAt k (by omega)).trans (iC_get hk)
  have f2 := own_frozen hown k
  have HOW := Lib.hid (own_set hown (j := k) (by omega) (.int .i64 d))
  rw [iC_set hk] at HOW
  have HB3 := Lib.hid (hB2.setCell (p := ⟨g, k, none⟩) (by show w.heap.size ≤ g; omega) (.int .i64 d))
  clear hown hgrow hat hB2 HSC hgV
  go_wp2
  obtain ⟨_, e1, _, hg2⟩ := own_at HOW.out (by omega)
  injection e1 with e1
  injection e1 with e1
  subst e1
  go_ret
  exact ⟨⟨_, _, rfl, .inr ⟨g, 0, rfl, hg2, fun i hi => by rw [Nat.zero_add, HOW.out.cellAt i (by omega), iC_get hi]⟩⟩, HB3.out⟩
end Go.Proofs.YtlfegmjdheddjaaDoor
