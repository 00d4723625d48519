/- The walk of plane.Events: refusing; the times of all hits. -/
import Derived.Test.YtgcepjminlapiaaCommon
import Derived.Test.YtgcepjminlapiaaEvB
import Derived.Test.YtgcepjminlapiaaEvF
namespace Go.Proofs.Ytgcepjminlapiaa
open Go.RowKit
set_option linter.unusedVariables false
set_option linter.unusedSimpArgs false
set_option maxRecDepth 100000 in
set_option maxHeartbeats 1000000 in
theorem Events_bad (a : Option Addr) (n c : Nat) (ps : Nat → PR) (ha : Option Addr) (m d : Nat) (hs : Nat → HV) (w : World) (B : Nat) (hBw : B ≤ w.heap.size) (hP : Planes B w a n ps) (hH : Hits B w ha m hs) (hE : ¬ allE n ps m hs = 0) :
    Calls Try.prog 44 #[setupV a n c, .slice ha m d] w fun e w' => e = .returned (.tuple #[.slice none 0 0, .int .i64 (allE n ps m hs)]) ∧ Below w.heap.size w w' := by
  have HP := Lib.hid hP
  have HH := Lib.hid hH
  have HE := Lib.hid (all_any a n c ps ha m d hs)
  clear hP hH
  generalize allE n ps m hs = E at *
  have h1 : (E != 0) = true := by simp [hE]
  go_enter Try.func44, Try.ntmps44
  go_wp2_with (go_at_call 65; refine (HE.out _ B (by simp; omega) (HP.out.below ((Below.refl B w).alloc hBw _)) (HH.out.below ((Below.refl B w).alloc hBw _))).mono ?_; rintro e wy ⟨rfl, hby⟩; have hb2 : Below w.heap.size w wy := ((Below.refl _ _).alloc (Nat.le_refl _) _).trans (hby.mono (by simp)))
  go_ret2
  exact ⟨rfl, hb2⟩
theorem info_span : (Try.prog.info? 34).map (fun i => (i.zero, i.size, i.bytes)) = some (some (.agg #[.int .i64 0, .int .i64 0]), 2, 16) := by kernel_rfl
/-- the boxes of Events while it reads the times: the setup's, the spans' -/
structure ET (a : Option Addr) (n c : Nat) (w : World) (sb pb m : Nat) (xs : List Value) (W : World) : Prop where
  below : Below w.heap.size w W
  sbox : W.heap[w.heap.size]? = some (.cells #[.slice a n c] 24)
  pbox : W.heap[pb]? = some (.cells #[.slice (some ⟨sb, 0, none⟩) m m] 60)
  own : W.ownsRow w.heap.size 34 2 (.slice (some ⟨sb, 0, none⟩) m m) m xs
theorem ET.step {a : Option Addr} {n c : Nat} {w : World} {sb pb m : Nat} {xs : List Value} {W wy : World} (h : ET a n c w sb pb m xs W) (hb : Below W.heap.size W wy) : ET a n c w sb pb m xs wy :=
  ⟨h.below.trans (hb.mono h.below.size), (hb.block _ (Array.getElem?_eq_some_iff.1 h.sbox).1).trans h.sbox, (hb.block _ (Array.getElem?_eq_some_iff.1 h.pbox).1).trans h.pbox, own_below h.own hb⟩
theorem ET.store {a : Option Addr} {n c : Nat} {w : World} {sb pb m : Nat} {xs : List Value} {W : World} (h : ET a n c w sb pb m xs W) (n1 : sb ≠ pb) (n2 : sb ≠ w.heap.size) (j : Nat) (u : Value) : ET a n c w sb pb m (xs.set j u) (W.setCell ⟨sb, j, none⟩ u) :=
  ⟨h.below.setCell (p := ⟨sb, j, none⟩) (h.own.lt sb rfl).1 u, (heap_setCell_other W ⟨sb, j, none⟩ _ u (Ne.symm n2)).trans h.sbox, (heap_setCell_other W ⟨sb, j, none⟩ _ u (Ne.symm n1)).trans h.pbox, (h.own.stored j u).1⟩
theorem ET.drew {a : Option Addr} {n c : Nat} {w : World} {sb pb m : Nat} {xs : List Value} {W : World} (h : ET a n c w sb pb m xs W) : ET a n c w sb pb m xs W.drew := ⟨h.below.drew, h.sbox, h.pbox, h.own⟩
/-- what the region that stores a hit's times reads -/
abbrev ES (pb sb m o : Nat) (v0 v1 : Value) (x9 : Nat) (A6 : Array Value) (x10 : Nat) (A16 : Array Value) (V w' : World) : Prop := w'.cell? ⟨pb, 0, none⟩ = some (.slice (some ⟨sb, 0, none⟩) m m) ∧ (∀ j, j < 6 → w'.cell? ⟨x9, j, none⟩ = A6[j]?) ∧ (∀ j, j < 16 → w'.cell? ⟨x10, j, none⟩ = A16[j]?) ∧ w'.cell? ⟨sb, o, none⟩ = some v0 ∧ w'.cell? ⟨sb, o + 1, none⟩ = some v1 ∧ w'.frozen? ⟨sb, o, none⟩ = false ∧ w'.frozen? ⟨sb, o + 1, none⟩ = false ∧ Below V.heap.size V w'
theorem ES_step {pb sb m o : Nat} {v0 v1 : Value} {x9 x10 : Nat} {A6 A16 : Array Value} {V W W' : World} (h : ES pb sb m o v0 v1 x9 A6 x10 A16 V W) (l1 : pb < V.heap.size) (l2 : sb < V.heap.size) (l3 : x9 < V.heap.size) (l4 : x10 < V.heap.size) (hb : Below W.heap.size W W') : ES pb sb m o v0 v1 x9 A6 x10 A16 V W' := by
  obtain ⟨h1, h2, h3, h4, h5, h6, h7, h8⟩ := h
  have hz := h8.size
  obtain ⟨hc, hf⟩ := bcell hb
  exact ⟨(hc _ _ (by omega)).trans h1, fun j hj => (hc _ _ (by omega)).trans (h2 j hj), fun j hj => (hc _ _ (by omega)).trans (h3 j hj), (hc _ _ (by omega)).trans h4, (hc _ _ (by omega)).trans h5, (hf _ _ (by omega)).trans h6, (hf _ _ (by omega)).trans h7, h8.trans (hb.mono h8.size)⟩
theorem ES_drew {pb sb m o : Nat} {v0 v1 : Value} {x9 x10 : Nat} {A6 A16 : Array Value} {V W : World} (h : ES pb sb m o v0 v1 x9 A6 x10 A16 V W) : ES pb sb m o v0 v1 x9 A6 x10 A16 V W.drew := ⟨h.1, h.2.1, h.2.2.1, h.2.2.2.1, h.2.2.2.2.1, h.2.2.2.2.2.1, h.2.2.2.2.2.2.1, h.2.2.2.2.2.2.2.drew⟩
theorem ES_below {pb sb m o : Nat} {v0 v1 : Value} {x9 x10 : Nat} {A6 A16 : Array Value} {V W : World} (h : ES pb sb m o v0 v1 x9 A6 x10 A16 V W) : Below V.heap.size V W := h.2.2.2.2.2.2.2
def spansC (lo hi : Nat → Int) (k : Nat) (xs : List Value) : Prop := ∀ j, j < k → xs[j * 2]? = some (.int .i64 (lo j)) ∧ xs[j * 2 + 1]? = some (.int .i64 (hi j))
theorem spansC_step {lo hi : Nat → Int} {k m : Nat} {xs : List Value} {tl th : Int} (h : spansC lo hi k xs) (ht : lo k = tl ∧ hi k = th) (hl : Hid (xs.length = m * 2)) (hk : k < m) : spansC lo hi (k + 1) ((xs.set (k * 2) (.int .i64 tl)).set (k * 2 + 1) (.int .i64 th)) := by
  intro j hj
  have hl := hl.out
  by_cases e : j = k
  · subst e
    rw [ht.1, ht.2]
    refine ⟨?_, ?_⟩
    · rw [List.getElem?_set_ne (by omega), List.getElem?_set_self (by omega)]
    · rw [List.getElem?_set_self (by rw [List.length_set]; omega)]
  · obtain ⟨h1, h2⟩ := h j (by omega)
    refine ⟨?_, ?_⟩
    · rw [List.getElem?_set_ne (by omega), List.getElem?_set_ne (by omega)]; exact h1
    · rw [List.getElem?_set_ne (by omega), List.getElem?_set_ne (by omega)]; exact h2
theorem take_before {lo : Nat → Int} {L : List Nat} (h : L.Pairwise (before lo)) {t : Nat} (ht : t < L.length) : ∀ y ∈ L.take t, lo y ≤ lo (L.getD t 0) := by
  intro y hy
  have hd : L = L.take t ++ L.drop t := (List.take_append_drop t L).symm
  rw [hd, List.pairwise_append] at h
  have := h.2.2 y hy (L.getD t 0) (by
    rw [List.getD_eq_getElem?_getD, List.getElem?_eq_getElem ht]
    show L[t] ∈ L.drop t
    rw [List.drop_eq_getElem_cons ht]
    exact List.mem_cons_self)
  rcases this with h1 | ⟨h1, _⟩ <;> omega
theorem one_int {x : Int} : ∀ u ∈ [Value.int .i64 x], u.oneCell' = true := by intro u hu; simp at hu; subst hu; rfl
def filmOf (ps : Nat → PR) (hs : Nat → HV) (i : Nat) : Bool := (ps (hs i).plane.toNat).kind == 3
/-- what Events hands back -/
def EvRes (w : World) (m : Nat) (lo hi : Nat → Int) (film : Nat → Bool) (e : Ending) (w' : World) : Prop :=
  ∃ cs oa oc, AllSwept m lo hi film cs ∧ e = .returned (.tuple #[.slice oa cs.length oc, .int .i64 0]) ∧ Lists w'.heap.size w' oa (cs.map (byNumber m)) ∧ Below w.heap.size w w'
theorem before_nodup {lo : Nat → Int} {c : List Nat} (h : c.Pairwise (before lo)) : c.Nodup := h.imp (fun h e => by subst e; unfold before at h; omega)
theorem AllSwept.chunk {m : Nat} {lo hi : Nat → Int} {film : Nat → Bool} {cs : List (List Nat)} (h : AllSwept m lo hi film cs) {c : List Nat} (hc : c ∈ cs) : (∀ i ∈ c, i < m) ∧ c.Nodup := by
  refine ⟨fun i hi => (h.inside c hc i hi).1, before_nodup (lo := lo) ?_⟩
  exact h.sorted.sublist (List.sublist_flatten_of_mem hc)
abbrev NS (pb sb k o : Nat) (x : Int) (W0 w' : World) : Prop := w'.cell? ⟨pb, 0, none⟩ = some (.slice (some ⟨sb, 0, none⟩) k k) ∧ w'.cell? ⟨sb, o, none⟩ = some (.int .i64 x) ∧ Below W0.heap.size W0 w'
theorem NS_of {pb sb k o : Nat} {x : Int} {W0 w' : World} (h1 : W0.cell? ⟨pb, 0, none⟩ = some (.slice (some ⟨sb, 0, none⟩) k k)) (h2 : W0.cell? ⟨sb, o, none⟩ = some (.int .i64 x)) (l1 : pb < W0.heap.size) (l2 : sb < W0.heap.size) (hb : Below W0.heap.size W0 w') : NS pb sb k o x W0 w' :=
  ⟨((bcell hb).1 _ _ l1).trans h1, ((bcell hb).1 _ _ l2).trans h2, hb⟩
theorem NS_drew {pb sb k o : Nat} {x : Int} {W0 w' : World} (h : NS pb sb k o x W0 w') : NS pb sb k o x W0 w'.drew := ⟨h.1, h.2.1, h.2.2.drew⟩
theorem NS_alloc {pb sb k o : Nat} {x : Int} {W0 w' : World} (h : NS pb sb k o x W0 w') (l1 : pb < W0.heap.size) (l2 : sb < W0.heap.size) (ob : Obj) : NS pb sb k o x W0 (w'.alloc ob) := by
  have hz := h.2.2.size
  have hb := (bcell ((Below.refl w'.heap.size w').alloc (Nat.le_refl _) ob)).1
  exact ⟨(hb _ _ (by omega)).trans h.1, (hb _ _ (by omega)).trans h.2.1, h.2.2.alloc hz ob⟩
theorem new_second (V : World) (o : Obj) (u : Value) {t : TypeId} : ∀ j v, [u][j]? = some v → ((V.alloc o).alloc (.cells #[u] t)).cell? ((⟨V.heap.size + 1, 0, none⟩ : Addr).add j) = some v := by
  intro j v h
  have := cells_new (w := V.alloc o) (t := t) (xs := [u]) j v h
  simpa using this
theorem one_slice {a : Option Addr} {n c : Nat} : ∀ u ∈ [Value.slice a n c], u.oneCell' = true := by intro u hu; simp at hu; subst hu; rfl
theorem info_ints : (Try.prog.info? 47).map (fun i => (i.zero, i.size, i.bytes)) = some (some (.slice none 0 0), 1, 24) := by kernel_rfl
theorem grown_undrew {X w1 : World} {r : Option Nat} (h : X.drew.grownBy w1 r) : X.grownBy w1 r := ⟨h.os, h.tape, h.output, h.size, h.block⟩
set_option maxRecDepth 100000 in
set_option maxHeartbeats 2000000 in
theorem Events_ok (a : Option Addr) (n c : Nat) (ps : Nat → PR) (ha : Option Addr) (m d : Nat) (hs : Nat → HV) (w : World) (B : Nat) (hBw : B ≤ w.heap.size) (hP : Planes B w a n ps) (hH : Hits B w ha m hs) (hE : allE n ps m hs = 0) :
    Calls Try.prog 44 #[setupV a n c, .slice ha m d] w (EvRes w m (tlOf ps hs) (thOf ps hs) (filmOf ps hs)) := by
  (have hm : m ≤ 2000 := (by by_cases h : 2000 < m; (rw [allE, if_pos h] at hE; cases hE); omega); have hB1 : hitsB n ps m hs = true := (by cases h : hitsB n ps m hs; (rw [allE, if_neg (by omega), h] at hE; cases hE); rfl); simp only [hitsB, Bool.and_eq_true, allUpto_iff] at hB1; obtain ⟨hC, hall⟩ := hB1; have hk : ∀ i, i < m → ∃ k, k < n ∧ (hs i).plane = (k : Int) ∧ hitB (ps k) (hs i) = true := fun i hi => ofB_yes (hall i hi))
  have HP := Lib.hid hP
  have HH := Lib.hid hH
  have HC := Lib.hid hC
  have HK := Lib.hid hk
  have HE := Lib.hid (all_any a n c ps ha m d hs)
  obtain ⟨i0, hi, hz0, hz1, hz2⟩ := info_parts info_span
  have hb2 : i0.bytes * m ≤ 281474976710656 := by rw [hz2]; omega
  have hb3 : m ≤ maxLen := by unfold maxLen; omega
  clear hP hH hall hk hC
  go_enter Try.func44, Try.ntmps44
  go_upto_region 4 with (go_at_call 65; refine (HE.out _ B (by simp; omega) (HP.out.below ((Below.refl B w).alloc hBw _)) (HH.out.below ((Below.refl B w).alloc hBw _))).mono ?_; rintro e wy ⟨rfl, hby⟩; rw [hE]; have hby2 : Below w.heap.size w wy := ((Below.refl _ _).alloc (Nat.le_refl _) _).trans (hby.mono (by simp)); have hsb : wy.heap[w.heap.size]? = some (.cells #[.slice a n c] 24) := (hby.block _ (by simp)).trans (heapQ_new rfl); clear hby)
  have hyz := hby2.size
  go_upto_region 5 with (refine wpList_make_full _ rfl _ _ 60 rfl w.heap.size 34 i0 (.agg #[.int .i64 0, .int .i64 0]) 2 Try.underlying60 hi hz0 hz1 _ _ (m : Int) (m : Int) m rfl rfl rfl rfl hb2 hb3 hyz ?_; intro w2 hown hgrow)
  have hb22 : Below w.heap.size w w2 := hby2.grown hgrow hyz (fun k h => by cases h)
  have hsz2 : wy.heap.size < w2.heap.size := (hown.lt _ rfl).2
  have HET := Lib.hid (show ET a n c w wy.heap.size w2.heap.size m _ (w2.alloc (.cells #[.slice (some ⟨wy.heap.size, 0, none⟩) m m] 60)) from
    ⟨hb22.alloc hb22.size _, (heapQ_old (by omega)).trans ((hgrow.block _ (Array.getElem?_eq_some_iff.1 hsb).1 (by simp)).trans hsb), heapQ_new rfl, hown.alloc _⟩)
  generalize (madeCells (Value.agg #[.int .i64 0, .int .i64 0]).cells (m * 2)).toList = xs0 at HET
  have hpw : w.heap.size < w2.heap.size := by omega
  have hsn : wy.heap.size ≠ w.heap.size := Nat.ne_of_gt (Array.getElem?_eq_some_iff.1 hsb).1
  have hsp : wy.heap.size ≠ w2.heap.size := by omega
  clear hown hgrow hsb hb22 hby2 hyz
  generalize w2.alloc (.cells #[.slice (some ⟨wy.heap.size, 0, none⟩) m m] 60) = W3 at *
  generalize w2.heap.size = pb at *
  generalize wy.heap.size = sb at *
  go_wp2
  go_loopw [30] (fun t wr => ∃ k : Nat, k ≤ m ∧ t = .int .i64 (k : Int) ∧ ∃ xs, Hid (ET a n c w sb pb m xs wr ∧ spansC (tlOf ps hs) (thOf ps hs) k xs)) (fun t _ => m - (intOf t).toNat)
  case atStart => exact ⟨0, Nat.zero_le _, rfl, xs0, Lib.hid ⟨HET.out, fun j h => by omega⟩⟩
  case round =>
    clear HET
    obtain ⟨k, hk, rfl, xs, HT⟩ := hrel
    by_cases hlt : k < m
    · have hlt' : (k : Int) < (m : Int) := by omega
      obtain ⟨b, off, rfl, hbB, y0, y1, y2, y3, y4, y5⟩ := (HH.out.below (HT.out.1.below.mono hBw)).get hlt
      have hbz : b < wr.heap.size := by have := HT.out.1.below.size; omega
      obtain ⟨kp, hkn, hkp, hkh⟩ := HK.out k hlt
      have HKP := Lib.hid hkp
      have HKH := Lib.hid hkh
      have HTM := Lib.hid (show tlOf ps hs k = timeLo (ps kp) (hs k) ∧ thOf ps hs k = timeHi (ps kp) (hs k) from by
        have : (hs k).plane.toNat = kp := by rw [hkp]; simp
        unfold tlOf thOf; rw [this]; exact ⟨rfl, rfl⟩)
      clear hkp hkh
      generalize hs k = h at y0 y1 y2 y3 y4 y5 HKP HKH HTM
      have c0 : wr.cell? ⟨w.heap.size, 0, none⟩ = some (.slice a n c) := cell_of_row _ _ _ _ _ _ HT.out.1.sbox
      have hzr := HT.out.1.below.size
      have hwr : w.heap.size < wr.heap.size := (Array.getElem?_eq_some_iff.1 HT.out.1.sbox).1
      go_upto_region 9 with (go_at_call 50; refine (of_in a n c ps h _ B (by simp; omega) (HP.out.below ((HT.out.1.below.mono hBw).alloc (by omega) _)) HC.out kp hkn HKP.out).mono ?_; rintro e wz ⟨rfl, hbz2⟩; rw [HKH.out])
      have hbz3 : Below wr.heap.size wr wz := ((Below.refl _ _).alloc (Nat.le_refl _) _).trans (hbz2.mono (by simp))
      have hx9 : wz.heap[wr.heap.size]? = some (.cells #[.int .i64 h.plane, .int .i64 h.channel, .int .i64 h.many, .int .i64 h.drift, .int .i64 h.charge, .int .i64 h.time] 26) := (hbz2.block _ (by simp)).trans (heapQ_new rfl)
      have hx9z : wr.heap.size < wz.heap.size := by have := hbz2.size; simp at this; omega
      have HT2 := Lib.hid (HT.out.1.step hbz3)
      have HSC := Lib.hid HT.out.2
      have hxl : xs.length = m * 2 := HT2.out.own.1
      have hsbz : sb < wz.heap.size := (HT2.out.own.lt sb rfl).2
      have hpbz : pb < wz.heap.size := (Array.getElem?_eq_some_iff.1 HT2.out.pbox).1
      clear hbz2 HT c0 y0 y1 y2 y3 y4 y5
      obtain ⟨tl, htl⟩ : ∃ t, t = timeLo (ps kp) h := ⟨_, rfl⟩
      obtain ⟨th, hth⟩ : ∃ t, t = timeHi (ps kp) h := ⟨_, rfl⟩
      have HTI := Lib.hid (fun (W : World) => show Calls Try.prog 52 #[(ps kp).placed kp, h.val] W (fun e w' => e = .returned (.agg #[.int .i64 tl, .int .i64 th]) ∧ Below W.heap.size W w') from by
        rw [htl, hth]
        exact times_any (ps kp) kp h W (properB_shaped (checkB_plane HC.out hkn)) (hitB_pre' HKH.out).2.2.2)
      have HTE := Lib.hid (show tlOf ps hs k = tl ∧ thOf ps hs k = th from ⟨HTM.out.1.trans htl.symm, HTM.out.2.trans hth.symm⟩)
      clear htl hth HTM
      obtain ⟨v0, hv0⟩ : ∃ v, xs[k * 2]? = some v := ⟨_, List.getElem?_eq_getElem (by omega)⟩
      obtain ⟨v1, hv1⟩ : ∃ v, xs[k * 2 + 1]? = some v := ⟨_, List.getElem?_eq_getElem (by omega)⟩
      have HP16 := Lib.hid (show (ps kp).placed kp = .agg #[.int .i64 (ps kp).kind, .int .i64 (ps kp).view, .int .i64 (ps kp).z, .int .i64 (ps kp).first, .int .i64 (ps kp).pitch, .int .i64 (ps kp).strips, .int .i64 (ps kp).spill, .int .i64 (ps kp).olo, .int .i64 (ps kp).ohi, .int .i64 (ps kp).clo, .int .i64 (ps kp).chi, .int .i64 (ps kp).jitter, .int .i64 (ps kp).least, .slice (ps kp).da (ps kp).dn (ps kp).dc, .slice (ps kp).ea (ps kp).en (ps kp).ec, .int .i64 (kp : Int)] from rfl)
      have hS0 : ES pb sb m (k * 2) v0 v1 wr.heap.size #[.int .i64 h.plane, .int .i64 h.channel, .int .i64 h.many, .int .i64 h.drift, .int .i64 h.charge, .int .i64 h.time] wz.heap.size #[.int .i64 (ps kp).kind, .int .i64 (ps kp).view, .int .i64 (ps kp).z, .int .i64 (ps kp).first, .int .i64 (ps kp).pitch, .int .i64 (ps kp).strips, .int .i64 (ps kp).spill, .int .i64 (ps kp).olo, .int .i64 (ps kp).ohi, .int .i64 (ps kp).clo, .int .i64 (ps kp).chi, .int .i64 (ps kp).jitter, .int .i64 (ps kp).least, .slice (ps kp).da (ps kp).dn (ps kp).dc, .slice (ps kp).ea (ps kp).en (ps kp).ec, .int .i64 (kp : Int)] (wz.alloc (.cells #[.int .i64 (ps kp).kind, .int .i64 (ps kp).view, .int .i64 (ps kp).z, .int .i64 (ps kp).first, .int .i64 (ps kp).pitch, .int .i64 (ps kp).strips, .int .i64 (ps kp).spill, .int .i64 (ps kp).olo, .int .i64 (ps kp).ohi, .int .i64 (ps kp).clo, .int .i64 (ps kp).chi, .int .i64 (ps kp).jitter, .int .i64 (ps kp).least, .slice (ps kp).da (ps kp).dn (ps kp).dc, .slice (ps kp).ea (ps kp).en (ps kp).ec, .int .i64 (kp : Int)] 93)) (wz.alloc (.cells #[.int .i64 (ps kp).kind, .int .i64 (ps kp).view, .int .i64 (ps kp).z, .int .i64 (ps kp).first, .int .i64 (ps kp).pitch, .int .i64 (ps kp).strips, .int .i64 (ps kp).spill, .int .i64 (ps kp).olo, .int .i64 (ps kp).ohi, .int .i64 (ps kp).clo, .int .i64 (ps kp).chi, .int .i64 (ps kp).jitter, .int .i64 (ps kp).least, .slice (ps kp).da (ps kp).dn (ps kp).dc, .slice (ps kp).ea (ps kp).en (ps kp).ec, .int .i64 (kp : Int)] 93)) :=
        ⟨cell_of_row _ _ _ _ _ _ ((heapQ_old hpbz).trans HT2.out.pbox), fun j _ => cell_of_row _ _ _ _ _ _ ((heapQ_old hx9z).trans hx9), fun j _ => cell_of_row _ _ _ _ _ _ (heapQ_new rfl), ((HT2.out.own.alloc _).cellAt (k * 2) (by omega)).trans hv0, ((HT2.out.own.alloc _).cellAt (k * 2 + 1) (by omega)).trans hv1, (HT2.out.own.alloc _).frozenAt _, (HT2.out.own.alloc _).frozenAt _, Below.refl _ _⟩
      have HET3 := Lib.hid (HT2.out.step ((Below.refl _ _).alloc (Nat.le_refl _) (.cells #[.int .i64 (ps kp).kind, .int .i64 (ps kp).view, .int .i64 (ps kp).z, .int .i64 (ps kp).first, .int .i64 (ps kp).pitch, .int .i64 (ps kp).strips, .int .i64 (ps kp).spill, .int .i64 (ps kp).olo, .int .i64 (ps kp).ohi, .int .i64 (ps kp).clo, .int .i64 (ps kp).chi, .int .i64 (ps kp).jitter, .int .i64 (ps kp).least, .slice (ps kp).da (ps kp).dn (ps kp).dc, .slice (ps kp).ea (ps kp).en (ps kp).ec, .int .i64 (kp : Int)] 93)))
      have hVz : wz.heap.size < (wz.alloc (.cells #[.int .i64 (ps kp).kind, .int .i64 (ps kp).view, .int .i64 (ps kp).z, .int .i64 (ps kp).first, .int .i64 (ps kp).pitch, .int .i64 (ps kp).strips, .int .i64 (ps kp).spill, .int .i64 (ps kp).olo, .int .i64 (ps kp).ohi, .int .i64 (ps kp).clo, .int .i64 (ps kp).chi, .int .i64 (ps kp).jitter, .int .i64 (ps kp).least, .slice (ps kp).da (ps kp).dn (ps kp).dc, .slice (ps kp).ea (ps kp).en (ps kp).ec, .int .i64 (kp : Int)] 93)).heap.size := by simp
      generalize World.alloc wz _ = V at *
      have g1 : pb < V.heap.size := by omega
      have g2 : sb < V.heap.size := by omega
      have g3 : wr.heap.size < V.heap.size := by omega
      clear HT2 hx9 hv0 hv1
      generalize wz.heap.size = x10 at *
      obtain ⟨x9, hx9e⟩ : ∃ x, x = wr.heap.size := ⟨_, rfl⟩
      rw [← hx9e] at hS0 g3 ⊢
      clear hx9e
      generalize ps kp = p at *
      obtain ⟨kind, view, z, first, pitch, strips, spill, olo, ohi, clo, chi, jitter, least, da, dn, dc, ea, en, ec, ds, es⟩ := p
      dsimp only at hS0
      have HU := Lib.hid (show ∀ (W : World), Calls Try.prog 52 #[.agg #[.int .i64 kind, .int .i64 view, .int .i64 z, .int .i64 first, .int .i64 pitch, .int .i64 strips, .int .i64 spill, .int .i64 olo, .int .i64 ohi, .int .i64 clo, .int .i64 chi, .int .i64 jitter, .int .i64 least, .slice da dn dc, .slice ea en ec, .int .i64 (kp : Int)], .agg #[.int .i64 h.plane, .int .i64 h.channel, .int .i64 h.many, .int .i64 h.drift, .int .i64 h.charge, .int .i64 h.time]] W (fun e w' => e = .returned (.agg #[.int .i64 tl, .int .i64 th]) ∧ Below W.heap.size W w') from HTI.out)
      have hkm : (k : Int) < (m : Int) := by omega
      have hxl2 := Lib.hid hxl
      clear HTI HP16 HKP HKH hxl
      have HES := Lib.hid hS0
      obtain ⟨e1, e2, e3, e4, e5, e6, e7, _⟩ := hS0
      go_region_with (go_at_call 52; (with_reducible refine (HU.out _).mono ?_); rintro e wy ⟨rfl, hby⟩; have hsy := ES_step (ES_drew HES.out) g1 g2 g3 hVz hby; have hsb : Below V.heap.size V wy := ES_below hsy; obtain ⟨k1, k2, k3, k4, k5, k6, k7, _⟩ := hsy; clear hby)
      all_goals go_wp2
      all_goals go_roundw
      all_goals first | (simp [intOf]; omega) | exact ⟨k + 1, by omega, by go_num, _, Lib.hid ⟨ET.store (ET.store (HET3.out.step hsb) hsp hsn _ _) hsp hsn _ _, spansC_step HSC.out HTE.out hxl2 hlt⟩⟩
    · have hkm : k = m := by omega
      subst hkm
      have hmf : ∀ (fn : Fn) (first cap : Array Value) (w : World), (Instr.makeFunc fn first cap).run Try.prog w = .ok (.func fn first cap) w := fun _ _ _ _ => rfl
      have l2 : pb < wr.heap.size := (Array.getElem?_eq_some_iff.1 HT.out.1.pbox).1
      have l3 : sb < wr.heap.size := (HT.out.1.own.lt sb rfl).2
      have l4 : w.heap.size < wr.heap.size := (Array.getElem?_eq_some_iff.1 HT.out.1.sbox).1
      have HPC := Lib.hid (show wr.cell? ⟨pb, 0, none⟩ = some (.slice (some ⟨sb, 0, none⟩) k k) from cell_of_row _ _ _ _ _ _ HT.out.1.pbox)
      have HSC := Lib.hid (show ∀ j, j < k → wr.cell? ⟨sb, j * 2, none⟩ = some (.int .i64 (tlOf ps hs j)) ∧ wr.cell? ⟨sb, j * 2 + 1, none⟩ = some (.int .i64 (thOf ps hs j)) from fun j hj => ⟨(HT.out.1.own.cellAt _ (by omega)).trans (HT.out.2 j hj).1, (HT.out.1.own.cellAt _ (by omega)).trans (HT.out.2 j hj).2⟩)
      have HBY := Lib.hid (by_any pb sb k k (tlOf ps hs) wr hm HPC.out (fun j hj => (HSC.out j hj).1) l2 l3)
      go_wp2_with (go_at_call 74; refine HBY.out.mono ?_; rintro e W0 ⟨g, gc, L, rfl, hL, hLc, hg1, hg2, hb0⟩)
      have hz0' := hb0.size
      have HB0 := Lib.hid (HT.out.1.below.trans (hb0.mono HT.out.1.below.size))
      have A0 := Lib.hid (show W0.cell? ⟨w.heap.size, 0, none⟩ = some (.slice a n c) from ((bcell hb0).1 _ _ l4).trans (cell_of_row _ _ _ _ _ _ HT.out.1.sbox))
      have A1 := Lib.hid (((bcell hb0).1 _ 0 l2).trans HPC.out)
      have A2 := Lib.hid (fun j (hj : j < k) => And.intro (((bcell hb0).1 _ _ l3).trans (HSC.out j hj).1) (((bcell hb0).1 _ _ l3).trans (HSC.out j hj).2))
      have A3 := Lib.hid hLc
      have HL := Lib.hid hL
      clear hLc hL hb0 HT HPC HSC HBY hmf HE hi hz0 hz1 hz2 hb2 hb3
      go_loopw [12, 13, 53] (fun s12 s13 s53 wx => ∃ (t : Nat) (rows : List Row) (v : Value) (e : Int), t ≤ k ∧ s53 = .int .i64 (t : Int) ∧ s12 = v ∧ s13 = .int .i64 e ∧ Hid (Swept (tlOf ps hs) (thOf ps hs) (filmOf ps hs) (L.take t) (rows.map (·.1)) e ∧ ER W0 rows v wx)) (fun _ _ s53 _ => k - (intOf s53).toNat)
      case atStart => exact ⟨0, [], _, 0, by omega, rfl, rfl, rfl, Lib.hid ⟨by simpa using swept_nil, ER.start W0⟩⟩
      case round =>
        obtain ⟨t, rows, v, e, ht, rfl, rfl, rfl, HR⟩ := hrel
        obtain ⟨oa, oc, hv⟩ := own_len HR.out.2.outer
        subst hv
        obtain ⟨hbd1, hbd2⟩ := HR.out.1.bounds
        have hbl := HR.out.2.below
        have hblz := hbl.size
        obtain ⟨hcb, hfb⟩ := bcell hbl
        by_cases hlt : t < k
        · have hlt' : (t : Int) < (k : Int) := by omega
          have htl : t < L.length := by rw [HL.out.len]; exact hlt
          have hLt : L.take (t + 1) = L.take t ++ [L.getD t 0] := by
            rw [List.take_add_one, List.getElem?_eq_getElem htl, List.getD_eq_getElem?_getD, List.getElem?_eq_getElem htl]; rfl
          have hik : L.getD t 0 < k := (HL.out.mem _).1 (by rw [List.getD_eq_getElem?_getD, List.getElem?_eq_getElem htl]; exact List.getElem_mem htl)
          have hso : ∀ y ∈ L.take t, tlOf ps hs y ≤ tlOf ps hs (L.getD t 0) := take_before HL.out.sorted htl
          have hrl : rows.length ≤ 2000 := by
            have h1 := hbd1
            rw [List.length_map, List.length_take] at h1
            omega
          have cg := (hcb g t hg2).trans (A3.out t hlt)
          have cs := (hcb w.heap.size 0 (by omega)).trans A0.out
          have cp := (hcb pb 0 (by omega)).trans A1.out
          have cl := (hcb sb _ (by omega)).trans (A2.out (L.getD t 0) hik).1
          have ch := (hcb sb _ (by omega)).trans (A2.out (L.getD t 0) hik).2
          have HLT := Lib.hid hLt
          have HSO := Lib.hid hso
          clear hLt hso htl hcb hfb
          obtain ⟨kp, hkn, hkp, hkh⟩ := HK.out (L.getD t 0) hik
          obtain ⟨hb, hoff, rfl, hhB, y0, _⟩ := (HH.out.below ((HB0.out.mono hBw).trans (hbl.mono (by omega)))).get hik
          obtain ⟨qb, qoff, rfl, hqB, ⟨z0, _⟩, _⟩ := (HP.out.below ((HB0.out.mono hBw).trans (hbl.mono (by omega)))).get hkn
          rw [hkp] at y0
          have HFI := Lib.hid (show filmOf ps hs (L.getD t 0) = ((ps kp).kind == 3) from by
            have : (hs (L.getD t 0)).plane.toNat = kp := by rw [hkp]; simp
            unfold filmOf; rw [this])
          have hhz : hb < wr.heap.size := by omega
          have hqz : qb < wr.heap.size := by omega
          have hn16 := (checkB_n HC.out).2
          have hkn' : (kp : Int) < (n : Int) := by omega
          clear hkp hkh
          generalize L.getD t 0 = i at *
          have hik' : (i : Int) < (k : Int) := by omega
          generalize (ps kp).kind = kd at *
          cases hF : (kd == 3)
          · have HFF := Lib.hid (HFI.out.trans hF)
            go_wp2_with fail
            go_quiet (fail)
            have HV := Lib.hid (HR.out.2.drewN nq)
            have HSW := Lib.hid HR.out.1
            have cp2 : (wr.drewN nq).cell? ⟨pb, 0, none⟩ = _ := cp
            have cl2 : (wr.drewN nq).cell? ⟨sb, i * 2, none⟩ = _ := cl
            have ch2 : (wr.drewN nq).cell? ⟨sb, i * 2 + 1, none⟩ = _ := ch
            clear HR hbl hblz cg cs cp cl ch y0 z0 hhz hqz hbd1 hbd2
            generalize wr.drewN nq = V at *
            go_upto_region 18 with (fail)
            have lpb : pb < W0.heap.size := by omega
            have lsb : sb < W0.heap.size := by omega
            by_cases hne : rows = []
            · have hr0 : rows.length = 0 := by rw [hne]; rfl
              have HSN := Lib.hid (swept_new HSW.out HFF.out HSO.out (.inl (by rw [hne]; rfl)))
              rw [hr0] at HV ⊢
              have HVr := HV
              have HNr := Lib.hid hr0
              clear hr0 hrl HV HSW hne
              go_upto_region 21 with (fail)
              clear cp2 cl2 ch2
              (obtain ⟨i1, hi1, hz10, hz11, hz12⟩ := info_parts info_ints; have hS0 : NS pb sb k (i * 2 + 1) (thOf ps hs i) W0 V := NS_of A1.out (A2.out i hik).2 lpb lsb HVr.out.below; have hb63 : 0 + 1 ≤ maxLen := (by unfold maxLen; omega); have hb47 : (0 + 1) * 24 ≤ 140737488355328 := (by omega); have hvz := HVr.out.below.size; have HB22 := Lib.hid (show ∀ o o', W0.heap.size ≤ ((V.alloc o).alloc o').heap.size from fun o o' => by simp; omega); have HOUT := Lib.hid (show V.ownsRow W0.heap.size 47 1 (.slice oa (0) oc) (0) (rowsC rows) from by have h9 := HVr.out.outer; rw [HNr.out] at h9; exact h9); have HNW := Lib.hid (fun (g' : Nat) (cap' : Nat) (w1 : World) (ho : w1.ownsRow W0.heap.size 47 1 (.slice (some ⟨g', 0, none⟩) (0 + 1) cap') (0 + 1) (rowsC rows ++ [.slice (some ⟨V.heap.size, 0, none⟩) 1 1])) (hg : ((V.alloc (.cells #[.int .i64 (i : Int)] 3)).alloc (.cells #[.slice (some ⟨V.heap.size, 0, none⟩) 1 1] 47)).drew.grownBy w1 (Value.slice oa (0) oc).ownBlock) => ER.new (i := i) (x := V.heap.size) ((HVr.out.alloc _).alloc _) ((World.ownsRow_lit V #[.int .i64 (i : Int)] 1 hvz (by decide) rfl).alloc _) (fun r hr => Nat.ne_of_lt (HVr.out.lt hr).2) (by rw [HNr.out]; exact ho) (grown_undrew hg)); go_region_held3 (fun w' => w'.cell? ⟨pb, 0, none⟩ = some (.slice (some ⟨sb, 0, none⟩) k k) ∧ w'.cell? ⟨sb, i * 2 + 1, none⟩ = some (.int .i64 (thOf ps hs i)) ∧ Below W0.heap.size W0 w') (first | (repeat (first | (with_reducible assumption) | (with_reducible refine NS_drew ?_) | (with_reducible refine NS_alloc ?_ lpb lsb _)))) (first | (refine step_append_lies _ rfl (.tmp 100) (.tmp 103) 81 rfl W0.heap.size 47 i1 (.slice none 0 0) 1 24 Try.underlying81 hi1 hz10 hz11 hz12 rfl (by decide) (.slice oa (0) oc) (0) (rowsC rows) (by simp [Act.eval, Act.put]) ((HOUT.out.alloc _).alloc _) ⟨V.heap.size + 1, 0, none⟩ 1 1 [.slice (some ⟨V.heap.size, 0, none⟩) 1 1] (by simp [Act.eval, Act.put]) rfl (new_second _ _ _) one_slice (by decide) hb63 hb47 (HB22.out _ _) _ rfl ?_; intro g2 cap2 w1 hown2 hgrow2 hat2 hlt2; have hE2 := HNW.out g2 cap2 w1 hown2 hgrow2; have hS1 := NS_of A1.out (A2.out i hik).2 lpb lsb hE2.below; have HE2 := Lib.hid hE2; clear hown2 hgrow2 hat2 hlt2 hE2)); go_wp2; go_roundw; (case rel => exact ⟨t + 1, rows ++ [([i], V.heap.size, 1)], _, _, by omega, by go_num, rfl, rfl, Lib.hid ⟨by rw [HLT.out, List.map_append]; exact HSN.out, HE2.out⟩⟩); (case measure => simp [intOf]; omega))
            · obtain ⟨rs, ⟨c1, g1, cap1⟩, hrows⟩ : ∃ rs r, rows = rs ++ [r] := by
                rcases List.eq_nil_or_concat rows with h1 | ⟨ds, l, h1⟩
                · exact absurd h1 hne
                · exact ⟨ds, l, by simpa using h1⟩
              have hrn : rows.length = rs.length + 1 := by rw [hrows]; simp
              obtain ⟨ob, rfl, hob1, hob2⟩ := own_at HV.out.outer (by omega)
              rw [hrn]
              rw [hrn] at HV hrl
              have HVr := HV
              have HNr := Lib.hid hrn
              have HSWr := HSW
              rw [hrows] at HV HSW
              rw [List.map_append] at HSW
              clear hrn hne
              have hcl : c1.length ≤ 2000 := by
                have h1 := HSW.out.bounds.2 c1 (by simp)
                rw [List.length_take] at h1
                omega
              by_cases hj : tlOf ps hs i ≤ e
              · have HJN := Lib.hid (swept_join (c := c1) HSW.out HFF.out HSO.out hj)
                obtain ⟨i1, hi1, hz10, hz11, hz12⟩ := info_parts info_i64
                have cO : V.cell? ⟨ob, rs.length, none⟩ = some (.slice (some ⟨g1, 0, none⟩) c1.length cap1) := by
                  have h1 := HV.out.outer
                  rw [List.length_append] at h1
                  rw [h1.cellAt rs.length (by simp), rowsC_append, List.getElem?_append_right (by simp [rowsC])]
                  simp [rowsC, rowV]
                have HIN := Lib.hid (show V.ownsRow W0.heap.size 3 1 (.slice (some ⟨g1, 0, none⟩) c1.length cap1) c1.length (nC c1) from HV.out.inner (c1, g1, cap1) (by simp))
                have hb63 : c1.length + 1 ≤ maxLen := by unfold maxLen; omega
                have hb47 : (c1.length + 1) * 8 ≤ 140737488355328 := by omega
                have HB22 := Lib.hid (show ∀ o, W0.heap.size ≤ (V.alloc o).heap.size from fun o => by have := HV.out.below.size; simp; omega)
                have hj' : (0 : Int) < (rs.length : Int) + 1 := by omega
                go_upto_region 20 with (at_builtin; refine wpList_append_lies _ rfl _ _ 47 rfl W0.heap.size 3 i1 (.int .i64 0) 1 8 Try.underlying47 hi1 hz10 hz11 hz12 rfl (by decide) _ c1.length (nC c1) rfl (HIN.out.alloc _) ⟨V.heap.size, 0, none⟩ 1 1 [.int .i64 (i : Int)] rfl rfl cells_new one_int (by decide) hb63 hb47 (HB22.out _) _ rfl ?_; intro g2 cap2 w1 hown2 hgrow2 hat2 hlt2; obtain ⟨hjE, hjO⟩ := ER.join (HV.out.alloc _) hown2 hgrow2 hat2; have q1 := (hjO.cellAt rs.length (by simp)).trans (rowsC_last _ _ _ _); have q2 := hjO.frozenAt rs.length; have HJE := Lib.hid hjE; clear hown2 hgrow2 hat2 hlt2 hjE hjO)
                obtain ⟨hcb2, _⟩ := bcell HJE.out.below
                have cp3 := (hcb2 pb 0 (by omega)).trans A1.out
                have ch3 := (hcb2 sb (i * 2 + 1) (by omega)).trans (A2.out i hik).2
                clear hcb2 q1 q2 cO cp2 cl2 ch2 HIN HV
                generalize World.setCell w1 _ _ = X at *
                have hjs : rs.length + 1 = (rs ++ [(c1 ++ [i], g2, cap2)]).length := by simp
                have HJS := Lib.hid hjs
                clear hjs
                go_wp2
                go_roundw
                case rel => exact ⟨t + 1, rs ++ [(c1 ++ [i], g2, cap2)], _, _, by omega, by go_num, rfl, rfl, Lib.hid ⟨by rw [HLT.out, List.map_append]; exact HJN.out, HJE.out⟩⟩
                case measure => simp [intOf]; omega
              · have HSN := Lib.hid (swept_new HSWr.out HFF.out HSO.out (.inr (by omega)))
                have hj1 : (0 : Int) < (rs.length : Int) + 1 := by omega
                clear HV HSW hrows
                obtain ⟨oa, hoa⟩ : ∃ oa : Option Addr, oa = some ⟨ob, 0, none⟩ := ⟨_, rfl⟩
                rw [← hoa] at HVr ⊢
                clear hoa
                go_upto_region 21 with (fail)
                clear cp2 cl2 ch2
                (obtain ⟨i1, hi1, hz10, hz11, hz12⟩ := info_parts info_ints; have hS0 : NS pb sb k (i * 2 + 1) (thOf ps hs i) W0 V := NS_of A1.out (A2.out i hik).2 lpb lsb HVr.out.below; have hb63 : rs.length + 1 + 1 ≤ maxLen := (by unfold maxLen; omega); have hb47 : (rs.length + 1 + 1) * 24 ≤ 140737488355328 := (by omega); have hvz := HVr.out.below.size; have HB22 := Lib.hid (show ∀ o o', W0.heap.size ≤ ((V.alloc o).alloc o').heap.size from fun o o' => by simp; omega); have HOUT := Lib.hid (show V.ownsRow W0.heap.size 47 1 (.slice oa (rs.length + 1) oc) (rs.length + 1) (rowsC rows) from by have h9 := HVr.out.outer; rw [HNr.out] at h9; exact h9); have HNW := Lib.hid (fun (g' : Nat) (cap' : Nat) (w1 : World) (ho : w1.ownsRow W0.heap.size 47 1 (.slice (some ⟨g', 0, none⟩) (rs.length + 1 + 1) cap') (rs.length + 1 + 1) (rowsC rows ++ [.slice (some ⟨V.heap.size, 0, none⟩) 1 1])) (hg : ((V.alloc (.cells #[.int .i64 (i : Int)] 3)).alloc (.cells #[.slice (some ⟨V.heap.size, 0, none⟩) 1 1] 47)).drew.grownBy w1 (Value.slice oa (rs.length + 1) oc).ownBlock) => ER.new (i := i) (x := V.heap.size) ((HVr.out.alloc _).alloc _) ((World.ownsRow_lit V #[.int .i64 (i : Int)] 1 hvz (by decide) rfl).alloc _) (fun r hr => Nat.ne_of_lt (HVr.out.lt hr).2) (by rw [HNr.out]; exact ho) (grown_undrew hg)); go_region_held3 (fun w' => w'.cell? ⟨pb, 0, none⟩ = some (.slice (some ⟨sb, 0, none⟩) k k) ∧ w'.cell? ⟨sb, i * 2 + 1, none⟩ = some (.int .i64 (thOf ps hs i)) ∧ Below W0.heap.size W0 w') (first | (repeat (first | (with_reducible assumption) | (with_reducible refine NS_drew ?_) | (with_reducible refine NS_alloc ?_ lpb lsb _)))) (first | (refine step_append_lies _ rfl (.tmp 100) (.tmp 103) 81 rfl W0.heap.size 47 i1 (.slice none 0 0) 1 24 Try.underlying81 hi1 hz10 hz11 hz12 rfl (by decide) (.slice oa (rs.length + 1) oc) (rs.length + 1) (rowsC rows) (by simp [Act.eval, Act.put]) ((HOUT.out.alloc _).alloc _) ⟨V.heap.size + 1, 0, none⟩ 1 1 [.slice (some ⟨V.heap.size, 0, none⟩) 1 1] (by simp [Act.eval, Act.put]) rfl (new_second _ _ _) one_slice (by decide) hb63 hb47 (HB22.out _ _) _ rfl ?_; intro g2 cap2 w1 hown2 hgrow2 hat2 hlt2; have hE2 := HNW.out g2 cap2 w1 hown2 hgrow2; have hS1 := NS_of A1.out (A2.out i hik).2 lpb lsb hE2.below; have HE2 := Lib.hid hE2; clear hown2 hgrow2 hat2 hlt2 hE2)); go_wp2; go_roundw; (case rel => exact ⟨t + 1, rows ++ [([i], V.heap.size, 1)], _, _, by omega, by go_num, rfl, rfl, Lib.hid ⟨by rw [HLT.out, List.map_append]; exact HSN.out, HE2.out⟩⟩); (case measure => simp [intOf]; omega))
          · have HFT := Lib.hid (HFI.out.trans hF)
            go_wp2_with fail
            go_quiet (fail)
            go_wp2
            go_roundw
            case rel => exact ⟨t + 1, rows, _, e, by omega, by go_num, rfl, rfl, Lib.hid ⟨by rw [HLT.out]; exact swept_film HR.out.1 HFT.out, HR.out.2.drewN _⟩⟩
            case measure => simp [intOf]; omega
        · obtain rfl : t = k := by omega
          have hall : AllSwept t (tlOf ps hs) (thOf ps hs) (filmOf ps hs) (rows.map (·.1)) := by
            have h1 := HR.out.1
            rw [List.take_of_length_le (by rw [HL.out.len]; exact Nat.le_refl _)] at h1
            exact h1.all HL.out.mem HL.out.sorted
          have HALL := Lib.hid hall
          have hrl : rows.length ≤ 2000 := by
            have h1 := hbd1
            rw [List.length_map, List.length_take] at h1
            omega
          have HCH := Lib.hid (fun (r : Row) (hr : r ∈ rows) => hall.chunk (c := r.1) (List.mem_map_of_mem hr))
          have HCL := Lib.hid (fun (r : Row) (hr : r ∈ rows) => show r.1.length ≤ 2000 from by
            have h1 := hbd2 r.1 (List.mem_map_of_mem hr)
            rw [List.length_take] at h1
            omega)
          have HLS := Lib.hid (show 0 < rows.length → ∃ ob, oa = some ⟨ob, 0, none⟩ ∧ LS W0 rows t ob 0 wr from fun h0 => by
            obtain ⟨ob, rfl, _, _⟩ := own_at HR.out.2.outer h0
            exact ⟨ob, rfl, HR.out.2.sorted0 h0⟩)
          have HBL := Lib.hid hbl
          have hB1 := HB0.out
          clear hall HR hbl hblz hcb hfb hbd1 hbd2 HK HH HP HC A0 A1 A2 A3 HB0
          go_wp2
          go_loopw [113] (fun s113 wx => ∃ q : Nat, q ≤ rows.length ∧ s113 = .int .i64 (q : Int) ∧ Hid (0 < rows.length → ∃ ob, oa = some ⟨ob, 0, none⟩ ∧ LS W0 rows t ob q wx) ∧ Hid (Below W0.heap.size W0 wx)) (fun s113 _ => rows.length - (intOf s113).toNat)
          case atStart => exact ⟨0, Nat.zero_le _, rfl, HLS, HBL⟩
          case round =>
            clear HLS HBL
            obtain ⟨q, hq, rfl, HLS, HBL⟩ := hrel
            by_cases hql : q < rows.length
            · have hql' : (q : Int) < (rows.length : Int) := by omega
              obtain ⟨ob, hoa, hls⟩ := HLS.out (by omega)
              subst hoa
              obtain ⟨⟨c1, g1, cap1⟩, hr⟩ : ∃ r, rows[q]? = some r := ⟨_, List.getElem?_eq_getElem hql⟩
              have hmem := List.mem_of_getElem? hr
              have c0 : wr.cell? ⟨ob, q, none⟩ = some (.slice (some ⟨g1, 0, none⟩) c1.length cap1) := hls.outer q _ hr
              have HSR := Lib.hid (sortRow_any g1 cap1 t c1 wr (hls.lt _ hmem).2.1 (HCL.out _ hmem) (HCH.out _ hmem).1 (HCH.out _ hmem).2 (hls.two q _ hr (Nat.le_refl _)))
              have HST := Lib.hid (fun (W' : World) (h1 : wr.grownBy W' (some g1)) (h2 : ∀ i, i < c1.length → W'.cell? ⟨g1, i, none⟩ = some (.int .i64 (((byNumber t c1).getD i 0 : Nat) : Int))) => hls.step hr h1 h2)
              clear hls hr hmem HLS
              go_wp2_with (go_at_call 76; refine HSR.out.mono ?_; rintro e w' ⟨rfl, hs1, hs2⟩; have hl2 := HST.out w' hs1 hs2; have HL2 := Lib.hid hl2; clear hs1 hs2 hl2)
              go_roundw
              case rel => exact ⟨q + 1, by omega, by go_num, Lib.hid (fun _ => ⟨ob, rfl, HL2.out⟩), Lib.hid HL2.out.below⟩
              case measure => simp [intOf]; omega
            · have hql' : ¬ (q : Int) < (rows.length : Int) := by omega
              go_wp2
              go_ret2
              refine ⟨rows.map (·.1), oa, oc, HALL.out, by rw [List.length_map]; rfl, ?_, hB1.trans (HBL.out.mono hB1.size)⟩
              rw [List.map_map]
              by_cases h0 : 0 < rows.length
              · obtain ⟨ob, rfl, hls⟩ := HLS.out h0
                exact hls.lists (by omega) (fun r hr => byNumber_len (HCH.out r hr).1 (HCH.out r hr).2)
              · exact .inl (by simp; exact List.length_eq_zero_iff.1 (by omega))
end Go.Proofs.Ytgcepjminlapiaa
