/- The walk of the statement ImageTrue. (printed by mktr.py) -/
import Derived.Test.YtollfpnfnciekaaDoorGrA
import Derived.Test.YtollfpnfnciekaaDoorRefAg
import Derived.Test.YtollfpnfnciekaaDoorGqA
import Derived.Test.YtollfpnfnciekaaDoorEiLaw
import Derived.Test.YtollfpnfnciekaaDoorImWit
namespace Go.Proofs.YtollfpnfnciekaaDoor
open Go.RowKit
set_option linter.unusedVariables false
set_option linter.unusedSimpArgs false
/-- the bounds of all cells -/
def bndF (n : Nat) (ss : Nat → SV) (m : Nat) (bs : Nat → BM) (i : Nat) : SV := bnd (fun f => fOf f i) (allF n ss m bs)
/-- a field that agrees, in memory -/
def TrF (n : Nat) (ss : Nat → SV) (m : Nat) (bs : Nat → BM) (W : World) (ga : Option Addr) (F : Nat → Int) : Prop := Ints W.heap.size W ga n F ∧ inBox n ss F ∧ agreesB m bs F = true
theorem TrF.step {n : Nat} {ss : Nat → SV} {m : Nat} {bs : Nat → BM} {W W' : World} {ga : Option Addr} {F : Nat → Int} (h : TrF n ss m bs W ga F) (hb : Below W.heap.size W W') : TrF n ss m bs W' ga F := ⟨(h.1.below hb).up hb.size, h.2⟩
/-- what the calls need of the image and the field -/
structure TrIn (a : Option Addr) (n c : Nat) (ba : Option Addr) (m bc : Nat) (ss : Nat → SV) (bs : Nat → BM) (fa : Option Addr) (k : Nat) (f : Nat → Int) (w : World) : Prop where
  im : ImIn w.heap.size a n c ba m bc ss bs w
  field : Ints w.heap.size w fa k f
  lk : k ≤ maxLen
theorem lex_first : ∀ {a b : List Int} {k : Nat}, (∀ i, i < k → fOf a i = fOf b i) → k < a.length → k < b.length → fOf a k < fOf b k → lexLt a b
  | [], _, _, _, h, _, _ => by simp at h
  | _ :: _, [], _, _, _, h, _ => by simp at h
  | x :: a, y :: b, 0, _, _, _, h => .inl h
  | x :: a, y :: b, k + 1, h0, h1, h2, h3 => .inr ⟨h0 0 (by omega), lex_first (fun i hi => h0 (i + 1) (by omega)) (by simpa using h1) (by simpa using h2) h3⟩
theorem first_le {n m : Nat} {ss : Nat → SV} {bs : Nat → BM} (hS : Shape n ss m bs) {g : List Int} {t : List (List Int)} (hA : allF n ss m bs = g :: t) {f : Nat → Int} (h : inBox n ss f) (ha : agreesB m bs f = true) {r : Int} (hr : OrdIs n n f (fOf g) r) : ¬ r < 0 := by
  have hm := own_all hS h ha
  have hsrt := allF_sorted (n := n) (ss := ss) (m := m) (bs := bs)
  have hgl : g.length = n := (allF_mem.1 (show g ∈ allF n ss m bs by rw [hA]; simp)).2.1
  rw [hA] at hm hsrt
  obtain ⟨k, h1, h2⟩ := hr
  rcases h2 with ⟨h3, _, h5⟩ | ⟨_, h4⟩
  · rcases h5 with ⟨h6, _⟩ | ⟨_, rfl⟩
    · exfalso
      have hlt : lexLt ((List.range n).map f) g := lex_first (k := k) (fun i hi => by rw [fOf_list (by omega)]; exact h1 i hi) (by simp; omega) (by omega) (by rw [fOf_list (by omega)]; exact h6)
      rcases List.mem_cons.1 hm with e | hm
      · rw [e] at hlt; exact lexLt_irrefl _ hlt
      · exact lexLt_asymm _ _ hlt ((List.pairwise_cons.1 hsrt).1 _ hm)
    · omega
  · rcases h4 with ⟨h5, _⟩ | ⟨h5, _⟩ | ⟨_, rfl⟩
    · omega
    · omega
    · omega
theorem wit_ne {n m : Nat} {ss : Nat → SV} {bs : Nat → BM} (hA : allF n ss m bs ≠ []) {i : Nat} {d : Int} (hd : d = (bnd (fun f => fOf f i) (allF n ss m bs)).lo ∨ d = (bnd (fun f => fOf f i) (allF n ss m bs)).hi) : ∃ g t, witL n ss m bs (i : Int) d = g :: t ∧ g ∈ allF n ss m bs ∧ fOf g i = d := by
  have hB := bnd_is (fun f => fOf f i) hA
  have hex : ∃ f ∈ allF n ss m bs, fOf f i = d := by
    rcases hd with rfl | rfl
    · obtain ⟨f, h1, h2⟩ := hB.lo; exact ⟨f, h1, h2⟩
    · obtain ⟨f, h1, h2⟩ := hB.hi; exact ⟨f, h1, h2⟩
  obtain ⟨f, h1, h2⟩ := hex
  have hmem : f ∈ witL n ss m bs (i : Int) d := by
    unfold witL
    rw [List.mem_filter, Int.toNat_natCast]
    exact ⟨h1, inB_iff.2 (by omega)⟩
  cases hw : witL n ss m bs (i : Int) d with
  | nil => rw [hw] at hmem; cases hmem
  | cons g t =>
    have hg : g ∈ witL n ss m bs (i : Int) d := by rw [hw]; simp
    unfold witL at hg
    rw [List.mem_filter, Int.toNat_natCast, inB_iff] at hg
    exact ⟨g, t, rfl, hg.1, by omega⟩
section
variable {a : Option Addr} {n c : Nat} {ba : Option Addr} {m bc : Nat} {ss : Nat → SV} {bs : Nat → BM} {fa : Option Addr} {k fc : Nat} {f : Nat → Int} {w W : World}
theorem TrIn.short (h : TrIn a n c ba m bc ss bs fa k f w) (hb : Below w.heap.size w W) : Calls Tryd.prog 9 #[imageV a n c ba m bc] W fun e w' => e = .returned (.bool (shortB n m bs)) ∧ Below W.heap.size W w' := short_any a n c ba m bc bs W _ (h.im.B' hb) h.im.spans.1 (h.im.M hb)
theorem TrIn.check (h : TrIn a n c ba m bc ss bs fa k f w) (hb : Below w.heap.size w W) : Calls Tryd.prog 10 #[imageV a n c ba m bc] W fun e w' => e = .returned (.int .i64 (checkN n ss m bs)) ∧ Below W.heap.size W w' := r8Check_any a n c ba m bc ss bs W _ (h.im.B' hb) (h.im.S hb) (h.im.M hb)
theorem TrIn.fields (h : TrIn a n c ba m bc ss bs fa k f w) (hC : checkN n ss m bs = 0) (hb : Below w.heap.size w W) : Calls Tryd.prog 11 #[imageV a n c ba m bc] W fun e w' => e = .returned (.int .i64 (min (prodN ss n) 200001)) ∧ Below W.heap.size W w' := r8Fields_any a n c ba m bc ss W _ (h.im.B' hb) (h.im.S hb) (checkN_shape hC).span
theorem TrIn.fieldC (h : TrIn a n c ba m bc ss bs fa k f w) (hb : Below w.heap.size w W) : Calls Tryd.prog 18 #[imageV a n c ba m bc, .slice fa k fc] W fun e w' => e = .returned (.bool (fieldB n ss k f)) ∧ Below W.heap.size W w' := r8Field_any a n c ba m bc ss fa k fc f W _ (h.im.B' hb) (h.im.S hb) ((h.field.below hb).up hb.size) h.lk
theorem TrIn.agrees (h : TrIn a n c ba m bc ss bs fa k f w) (hC : checkN n ss m bs = 0) (hf : fieldB n ss k f = true) (hb : Below w.heap.size w W) : Calls Tryd.prog 19 #[imageV a n c ba m bc, .slice fa k fc] W fun e w' => e = .returned (.bool (agreesB m bs f)) ∧ Below W.heap.size W w' := by
  obtain ⟨rfl, h1⟩ := fieldB_iff.1 hf
  exact r8Agrees_any a k c ba m bc ss bs fa fc f W _ (h.im.B' hb) (h.im.M hb) (checkN_shape hC) ((h.field.below hb).up hb.size) (inBox_den (checkN_shape hC) h1)
theorem TrIn.knownC (h : TrIn a n c ba m bc ss bs fa k f w) (hb : Below w.heap.size w W) : Calls Tryd.prog 13 #[] W fun e w' => e = .returned (.bool true) ∧ Below W.heap.size W w' := h.im.known hb
theorem TrIn.first1 (h : TrIn a n c ba m bc ss bs fa k f w) (hC : checkN n ss m bs = 0) {g : List Int} {t : List (List Int)} (hA : allF n ss m bs = g :: t) (hb : Below w.heap.size w W) : Calls Tryd.prog 17 #[imageV a n c ba m bc] W fun e w' => (∃ ga gc, e = .returned (.tuple #[.slice ga n gc, .int .i64 0]) ∧ TrF n ss m bs w' ga (fOf g)) ∧ Below W.heap.size W w' :=
  (First_any a n c ba m bc ss bs W _ (h.im.B' hb) (h.im.S hb) (h.im.M hb)).mono fun e w' h => by
    have h2 := h.2
    rw [if_pos hC, hA] at h2
    obtain ⟨fa, fc, he, b, ha, _, hlt, hc⟩ := h2
    exact ⟨⟨fa, fc, he, .inr ⟨b, 0, ha, hlt, fun i hi => by rw [Nat.zero_add]; exact hc i hi⟩, all_field (show g ∈ allF n ss m bs by rw [hA]; simp)⟩, h.1⟩
theorem TrIn.first0 (h : TrIn a n c ba m bc ss bs fa k f w) (hC : checkN n ss m bs = 0) (hA : allF n ss m bs = []) (hb : Below w.heap.size w W) : Calls Tryd.prog 17 #[imageV a n c ba m bc] W fun e w' => e = .returned (.tuple #[.slice none 0 0, .int .i64 5]) ∧ Below W.heap.size W w' :=
  (First_any a n c ba m bc ss bs W _ (h.im.B' hb) (h.im.S hb) (h.im.M hb)).mono fun e w' h => by
    have h2 := h.2
    rw [if_pos hC, hA] at h2
    exact ⟨h2, h.1⟩
theorem TrIn.bounds0 (h : TrIn a n c ba m bc ss bs fa k f w) (hC : checkN n ss m bs = 0) (hA : allF n ss m bs = []) (hb : Below w.heap.size w W) : Calls Tryd.prog 14 #[imageV a n c ba m bc] W fun e w' => e = .returned (.tuple #[.slice none 0 0, .int .i64 5]) ∧ Below W.heap.size W w' :=
  (Bounds_any a n c ba m bc ss bs W _ (h.im.B' hb) (h.im.S hb) (h.im.M hb)).mono fun e w' h => by
    have h2 := h.2
    rw [if_pos hC, if_pos hA] at h2
    exact ⟨h2, h.1⟩
theorem TrIn.bounds1 (h : TrIn a n c ba m bc ss bs fa k f w) (hC : checkN n ss m bs = 0) (hA : allF n ss m bs ≠ []) (hb : Below w.heap.size w W) : Calls Tryd.prog 14 #[imageV a n c ba m bc] W fun e w' => (∃ ob, e = .returned (.tuple #[.slice (some ⟨ob, 0, none⟩) n n, .int .i64 0]) ∧ Spans w'.heap.size w' (some ⟨ob, 0, none⟩) n (bndF n ss m bs)) ∧ Below W.heap.size W w' :=
  (Bounds_any a n c ba m bc ss bs W _ (h.im.B' hb) (h.im.S hb) (h.im.M hb)).mono fun e w' h' => by
    have h2 := h'.2
    rw [if_pos hC, if_neg hA] at h2
    obtain ⟨ob, he, _, hs⟩ := h2
    exact ⟨⟨ob, he, h.im.spans.1, .inr ⟨ob, 0, rfl, hs.lt, fun i hi => by rw [Nat.zero_add]; exact hs.cell hi⟩⟩, h'.1⟩
theorem TrIn.field2 (h : TrIn a n c ba m bc ss bs fa k f w) (hb : Below w.heap.size w W) {ga : Option Addr} (gc : Nat) {F : Nat → Int} (hG : TrF n ss m bs W ga F) : Calls Tryd.prog 18 #[imageV a n c ba m bc, .slice ga n gc] W fun e w' => e = .returned (.bool true) ∧ Below W.heap.size W w' := by
  have := r8Field_any a n c ba m bc ss ga n gc F W _ (h.im.B' hb) (h.im.S hb) hG.1 h.im.spans.1
  rwa [fieldB_iff.2 ⟨rfl, hG.2.1⟩] at this
theorem TrIn.agrees2 (h : TrIn a n c ba m bc ss bs fa k f w) (hC : checkN n ss m bs = 0) (hb : Below w.heap.size w W) {ga : Option Addr} (gc : Nat) {F : Nat → Int} (hG : TrF n ss m bs W ga F) : Calls Tryd.prog 19 #[imageV a n c ba m bc, .slice ga n gc] W fun e w' => e = .returned (.bool true) ∧ Below W.heap.size W w' := by
  have := r8Agrees_any a n c ba m bc ss bs ga gc F W _ (h.im.B' hb) (h.im.M hb) (checkN_shape hC) hG.1 (inBox_den (checkN_shape hC) hG.2.1)
  rwa [hG.2.2] at this
theorem TrIn.order (h : TrIn a n c ba m bc ss bs fa k f w) (hC : checkN n ss m bs = 0) {g : List Int} {t : List (List Int)} (hA : allF n ss m bs = g :: t) (hkn : k = n) (hf : inBox n ss f) (ha : agreesB m bs f = true) (hb : Below w.heap.size w W) (ga : Option Addr) (gc : Nat) (hG : TrF n ss m bs W ga (fOf g)) : Calls Tryd.prog 20 #[.slice fa k fc, .slice ga n gc] W fun e w' => (∃ r, e = .returned (.int .i64 r) ∧ ¬ r < 0) ∧ Below W.heap.size W w' := by
  subst hkn
  exact (Order_any fa ga k k fc gc f (fOf g) W W.heap.size (Nat.le_refl _) ((h.field.below hb).up hb.size) hG.1 h.lk h.lk).mono fun e w' h' => by
    obtain ⟨⟨r, he, hr⟩, hb'⟩ := h'
    exact ⟨⟨r, he, first_le (checkN_shape hC) hA hf ha hr⟩, hb'⟩
theorem TrIn.wit (h : TrIn a n c ba m bc ss bs fa k f w) (hC : checkN n ss m bs = 0) (hA : allF n ss m bs ≠ []) (hb : Below w.heap.size w W) (i : Nat) (hi : i < n) (d : Int) (hd : d = (bndF n ss m bs i).lo ∨ d = (bndF n ss m bs i).hi) : Calls Tryd.prog 21 #[imageV a n c ba m bc, .int .i64 (i : Int), .int .i64 d] W fun e w' => (∃ ga gc F, e = .returned (.tuple #[.slice ga n gc, .int .i64 0]) ∧ TrF n ss m bs w' ga F ∧ F i = d) ∧ Below W.heap.size W w' := by
  obtain ⟨g, t, h1, h2, h3⟩ := wit_ne hA hd
  exact (Witness_any a n c ba m bc ss bs (i : Int) d W _ (h.im.B' hb) (h.im.S hb) (h.im.M hb)).mono fun e w' h' => by
    have h4 := h'.2
    rw [if_pos (by rw [inB_iff.2 ⟨by omega, by omega⟩, checkF_true]; exact hC), h1] at h4
    obtain ⟨ga, gc, he, b, ha, _, hlt, hc⟩ := h4
    exact ⟨⟨ga, gc, fOf g, he, ⟨.inr ⟨b, 0, ha, hlt, fun i hi => by rw [Nat.zero_add]; exact hc i hi⟩, all_field h2⟩, h3⟩, h'.1⟩
end
theorem own_bnd {n m : Nat} {ss : Nat → SV} {bs : Nat → BM} (hS : Shape n ss m bs) {f : Nat → Int} (h : inBox n ss f) (ha : agreesB m bs f = true) {i : Nat} (hi : i < n) : (bndF n ss m bs i).lo ≤ f i ∧ f i ≤ (bndF n ss m bs i).hi := by
  unfold bndF
  have hm := own_all hS h ha
  have := (bnd_is (fun f => fOf f i) (fun e => by rw [e] at hm; cases hm)).all _ hm
  rwa [fOf_list hi] at this
/-- the guards that are held -/
def TrYes (n : Nat) (ss : Nat → SV) (m : Nat) (bs : Nat → BM) (k : Nat) : Prop := shortB n m bs = true ∧ checkN n ss m bs = 0 ∧ min (prodN ss n) 200001 ≤ 20000 ∧ k ≤ 60
set_option maxRecDepth 100000 in
set_option maxHeartbeats 4000000 in
theorem True_no (a : Option Addr) (n c : Nat) (ba : Option Addr) (m bc : Nat) (ss : Nat → SV) (bs : Nat → BM) (fa : Option Addr) (k fc : Nat) (f : Nat → Int) (w : World) (h : TrIn a n c ba m bc ss bs fa k f w) (hno : ¬ TrYes n ss m bs k) :
    Calls Tryd.prog 4 #[imageV a n c ba m bc, .slice fa k fc] w fun e w' => e = .returned (.bool true) ∧ Below w.heap.size w w' := by
  have HKN := Lib.hid (fun (W : World) (hb : Below w.heap.size w W) => h.knownC hb)
  have HST := Lib.hid (fun (W : World) (hb : Below w.heap.size w W) => h.short hb)
  have HCH := Lib.hid (fun (W : World) (hb : Below w.heap.size w W) => h.check hb)
  have HNN := Lib.hid hno
  have hk := h.lk
  unfold maxLen at hk
  clear hno
  cases h1 : shortB n m bs
  · rw [h1] at HST
    clear HNN
    go_enter Tryd.func4, Tryd.ntmps4; go_upto_region 1 with (fail); have HL := Lib.hid (show LI a n c ba m bc w (w.alloc (.cells #[.slice a n c, .slice ba m bc] 25)) from LI_start); generalize World.alloc w _ = V at *; obtain ⟨l0, l1, l2, l3⟩ := HL.out
    go_wp2_with (first | (go_at_call 9; refine (HST.out _ l3).mono ?_; rintro e w2 ⟨rfl, hb2⟩; have HLx := Lib.hid (LI_step HL.out hb2); clear HL hb2; have HL := HLx; clear HLx; (try clear l0 l1 l2 l3); obtain ⟨l0, l1, l2, l3⟩ := HL.out) | (go_at_call 13; refine (HKN.out _ l3).mono ?_; rintro e w5 ⟨rfl, hb5⟩; have HLx := Lib.hid (LI_step HL.out hb5); clear HL hb5; have HL := HLx; clear HLx; (try clear l0 l1 l2 l3); obtain ⟨l0, l1, l2, l3⟩ := HL.out))
    go_ret
    exact ⟨rfl, l3⟩
  · rw [h1] at HST
    by_cases hC : checkN n ss m bs = 0
    · have HFS := Lib.hid (fun (W : World) (hb : Below w.heap.size w W) => h.fields hC hb)
      rw [hC] at HCH
      by_cases h3 : min (prodN ss n) 200001 ≤ 20000
      · have h5 : ¬ k ≤ 60 := fun h5 => HNN.out ⟨h1, hC, h3, h5⟩
        generalize min (prodN ss n) 200001 = P at *
        have h3' : ¬ 20000 < P := by omega
        have h5' : 60 < (k : Int) := by omega
        clear HNN hC h5 h3
        go_enter Tryd.func4, Tryd.ntmps4; go_upto_region 1 with (fail); have HL := Lib.hid (show LI a n c ba m bc w (w.alloc (.cells #[.slice a n c, .slice ba m bc] 25)) from LI_start); generalize World.alloc w _ = V at *; obtain ⟨l0, l1, l2, l3⟩ := HL.out
        go_wp2_with (first | (go_at_call 9; refine (HST.out _ l3).mono ?_; rintro e w2 ⟨rfl, hb2⟩; have HLx := Lib.hid (LI_step HL.out hb2); clear HL hb2; have HL := HLx; clear HLx; (try clear l0 l1 l2 l3); obtain ⟨l0, l1, l2, l3⟩ := HL.out) | (go_at_call 10; refine (HCH.out _ l3).mono ?_; rintro e w3 ⟨rfl, hb3⟩; have HLx := Lib.hid (LI_step HL.out hb3); clear HL hb3; have HL := HLx; clear HLx; (try clear l0 l1 l2 l3); obtain ⟨l0, l1, l2, l3⟩ := HL.out) | (go_at_call 11; refine (HFS.out _ l3).mono ?_; rintro e w4 ⟨rfl, hb4⟩; have HLx := Lib.hid (LI_step HL.out hb4); clear HL hb4; have HL := HLx; clear HLx; (try clear l0 l1 l2 l3); obtain ⟨l0, l1, l2, l3⟩ := HL.out) | (go_at_call 13; refine (HKN.out _ l3).mono ?_; rintro e w5 ⟨rfl, hb5⟩; have HLx := Lib.hid (LI_step HL.out hb5); clear HL hb5; have HL := HLx; clear HLx; (try clear l0 l1 l2 l3); obtain ⟨l0, l1, l2, l3⟩ := HL.out))
        go_ret
        exact ⟨rfl, l3⟩
      · generalize min (prodN ss n) 200001 = P at *
        have h3' : 20000 < P := by omega
        clear HNN hC h3
        go_enter Tryd.func4, Tryd.ntmps4; go_upto_region 1 with (fail); have HL := Lib.hid (show LI a n c ba m bc w (w.alloc (.cells #[.slice a n c, .slice ba m bc] 25)) from LI_start); generalize World.alloc w _ = V at *; obtain ⟨l0, l1, l2, l3⟩ := HL.out
        go_wp2_with (first | (go_at_call 9; refine (HST.out _ l3).mono ?_; rintro e w2 ⟨rfl, hb2⟩; have HLx := Lib.hid (LI_step HL.out hb2); clear HL hb2; have HL := HLx; clear HLx; (try clear l0 l1 l2 l3); obtain ⟨l0, l1, l2, l3⟩ := HL.out) | (go_at_call 10; refine (HCH.out _ l3).mono ?_; rintro e w3 ⟨rfl, hb3⟩; have HLx := Lib.hid (LI_step HL.out hb3); clear HL hb3; have HL := HLx; clear HLx; (try clear l0 l1 l2 l3); obtain ⟨l0, l1, l2, l3⟩ := HL.out) | (go_at_call 11; refine (HFS.out _ l3).mono ?_; rintro e w4 ⟨rfl, hb4⟩; have HLx := Lib.hid (LI_step HL.out hb4); clear HL hb4; have HL := HLx; clear HLx; (try clear l0 l1 l2 l3); obtain ⟨l0, l1, l2, l3⟩ := HL.out) | (go_at_call 13; refine (HKN.out _ l3).mono ?_; rintro e w5 ⟨rfl, hb5⟩; have HLx := Lib.hid (LI_step HL.out hb5); clear HL hb5; have HL := HLx; clear HLx; (try clear l0 l1 l2 l3); obtain ⟨l0, l1, l2, l3⟩ := HL.out))
        go_ret
        exact ⟨rfl, l3⟩
    · have hne : (checkN n ss m bs == 0) = false := by rw [beq_eq_false_iff_ne]; exact hC
      clear HNN hC
      generalize checkN n ss m bs = E at *
      have hne2 : (E != 0) = true := by rw [bne, hne]; rfl
      go_enter Tryd.func4, Tryd.ntmps4; go_upto_region 1 with (fail); have HL := Lib.hid (show LI a n c ba m bc w (w.alloc (.cells #[.slice a n c, .slice ba m bc] 25)) from LI_start); generalize World.alloc w _ = V at *; obtain ⟨l0, l1, l2, l3⟩ := HL.out
      go_wp2_with (first | (go_at_call 9; refine (HST.out _ l3).mono ?_; rintro e w2 ⟨rfl, hb2⟩; have HLx := Lib.hid (LI_step HL.out hb2); clear HL hb2; have HL := HLx; clear HLx; (try clear l0 l1 l2 l3); obtain ⟨l0, l1, l2, l3⟩ := HL.out) | (go_at_call 10; refine (HCH.out _ l3).mono ?_; rintro e w3 ⟨rfl, hb3⟩; have HLx := Lib.hid (LI_step HL.out hb3); clear HL hb3; have HL := HLx; clear HLx; (try clear l0 l1 l2 l3); obtain ⟨l0, l1, l2, l3⟩ := HL.out) | (go_at_call 13; refine (HKN.out _ l3).mono ?_; rintro e w5 ⟨rfl, hb5⟩; have HLx := Lib.hid (LI_step HL.out hb5); clear HL hb5; have HL := HLx; clear HLx; (try clear l0 l1 l2 l3); obtain ⟨l0, l1, l2, l3⟩ := HL.out))
      go_ret
      exact ⟨rfl, l3⟩
set_option maxRecDepth 100000 in
set_option maxHeartbeats 4000000 in
theorem True_none (a : Option Addr) (n c : Nat) (ba : Option Addr) (m bc : Nat) (ss : Nat → SV) (bs : Nat → BM) (fa : Option Addr) (k fc : Nat) (f : Nat → Int) (w : World) (h : TrIn a n c ba m bc ss bs fa k f w) (hyes : TrYes n ss m bs k) (hA : allF n ss m bs = []) :
    Calls Tryd.prog 4 #[imageV a n c ba m bc, .slice fa k fc] w fun e w' => e = .returned (.bool true) ∧ Below w.heap.size w w' := by
  have hC := hyes.2.1; have hk := h.lk; unfold maxLen at hk; have HKN := Lib.hid (fun (W : World) (hb : Below w.heap.size w W) => h.knownC hb); have HST := Lib.hid (fun (W : World) (hb : Below w.heap.size w W) => h.short hb); have HCH := Lib.hid (fun (W : World) (hb : Below w.heap.size w W) => h.check hb); have HFS := Lib.hid (fun (W : World) (hb : Below w.heap.size w W) => h.fields hC hb); have HFD := Lib.hid (fun (W : World) (hb : Below w.heap.size w W) => h.fieldC (fc := fc) hb); have HAG0 := Lib.hid (fun (hf : fieldB n ss k f = true) (W : World) (hb : Below w.heap.size w W) => h.agrees (fc := fc) hC hf hb); obtain ⟨g1, g3, g4, g5⟩ := hyes; rw [g1] at HST; rw [g3] at HCH; generalize min (prodN ss n) 200001 = P at *; have g4' : ¬ 20000 < P := (by omega); have g5' : ¬ 60 < (k : Int) := (by omega); clear g1 g4 g5 g3
  have HFI := Lib.hid (fun (W : World) (hb : Below w.heap.size w W) => h.first0 hC hA hb)
  have HBO := Lib.hid (fun (W : World) (hb : Below w.heap.size w W) => h.bounds0 hC hA hb)
  have HAF := Lib.hid (fun (hf : fieldB n ss k f = true) => own_none (checkN_shape hC) hA (fieldB_iff.1 hf).2)
  clear hA hC h
  cases hf : fieldB n ss k f
  · rw [hf] at HFD
    clear HAG0 HAF
    go_enter Tryd.func4, Tryd.ntmps4; go_upto_region 1 with (fail); have HL := Lib.hid (show LI a n c ba m bc w (w.alloc (.cells #[.slice a n c, .slice ba m bc] 25)) from LI_start); generalize World.alloc w _ = V at *; obtain ⟨l0, l1, l2, l3⟩ := HL.out
    go_wp2_with (first | (go_at_call 9; refine (HST.out _ l3).mono ?_; rintro e w2 ⟨rfl, hb2⟩; have HLx := Lib.hid (LI_step HL.out hb2); clear HL hb2; have HL := HLx; clear HLx; (try clear l0 l1 l2 l3); obtain ⟨l0, l1, l2, l3⟩ := HL.out) | (go_at_call 10; refine (HCH.out _ l3).mono ?_; rintro e w3 ⟨rfl, hb3⟩; have HLx := Lib.hid (LI_step HL.out hb3); clear HL hb3; have HL := HLx; clear HLx; (try clear l0 l1 l2 l3); obtain ⟨l0, l1, l2, l3⟩ := HL.out) | (go_at_call 11; refine (HFS.out _ l3).mono ?_; rintro e w4 ⟨rfl, hb4⟩; have HLx := Lib.hid (LI_step HL.out hb4); clear HL hb4; have HL := HLx; clear HLx; (try clear l0 l1 l2 l3); obtain ⟨l0, l1, l2, l3⟩ := HL.out) | (go_at_call 13; refine (HKN.out _ l3).mono ?_; rintro e w5 ⟨rfl, hb5⟩; have HLx := Lib.hid (LI_step HL.out hb5); clear HL hb5; have HL := HLx; clear HLx; (try clear l0 l1 l2 l3); obtain ⟨l0, l1, l2, l3⟩ := HL.out) | (go_at_call 14; refine (HBO.out _ l3).mono ?_; rintro e w6 ⟨rfl, hb6⟩; have HLx := Lib.hid (LI_step HL.out hb6); clear HL hb6; have HL := HLx; clear HLx; (try clear l0 l1 l2 l3); obtain ⟨l0, l1, l2, l3⟩ := HL.out) | (go_at_call 17; refine (HFI.out _ l3).mono ?_; rintro e w7 ⟨rfl, hb7⟩; have HLx := Lib.hid (LI_step HL.out hb7); clear HL hb7; have HL := HLx; clear HLx; (try clear l0 l1 l2 l3); obtain ⟨l0, l1, l2, l3⟩ := HL.out) | (go_at_call 18; refine (HFD.out _ l3).mono ?_; rintro e w8 ⟨rfl, hb8⟩; have HLx := Lib.hid (LI_step HL.out hb8); clear HL hb8; have HL := HLx; clear HLx; (try clear l0 l1 l2 l3); obtain ⟨l0, l1, l2, l3⟩ := HL.out))
    go_ret
    exact ⟨rfl, l3⟩
  · rw [hf] at HFD
    have HAG := Lib.hid (HAG0.out hf)
    rw [HAF.out hf] at HAG
    clear HAG0 HAF
    go_enter Tryd.func4, Tryd.ntmps4; go_upto_region 1 with (fail); have HL := Lib.hid (show LI a n c ba m bc w (w.alloc (.cells #[.slice a n c, .slice ba m bc] 25)) from LI_start); generalize World.alloc w _ = V at *; obtain ⟨l0, l1, l2, l3⟩ := HL.out
    go_wp2_with (first | (go_at_call 9; refine (HST.out _ l3).mono ?_; rintro e w2 ⟨rfl, hb2⟩; have HLx := Lib.hid (LI_step HL.out hb2); clear HL hb2; have HL := HLx; clear HLx; (try clear l0 l1 l2 l3); obtain ⟨l0, l1, l2, l3⟩ := HL.out) | (go_at_call 10; refine (HCH.out _ l3).mono ?_; rintro e w3 ⟨rfl, hb3⟩; have HLx := Lib.hid (LI_step HL.out hb3); clear HL hb3; have HL := HLx; clear HLx; (try clear l0 l1 l2 l3); obtain ⟨l0, l1, l2, l3⟩ := HL.out) | (go_at_call 11; refine (HFS.out _ l3).mono ?_; rintro e w4 ⟨rfl, hb4⟩; have HLx := Lib.hid (LI_step HL.out hb4); clear HL hb4; have HL := HLx; clear HLx; (try clear l0 l1 l2 l3); obtain ⟨l0, l1, l2, l3⟩ := HL.out) | (go_at_call 13; refine (HKN.out _ l3).mono ?_; rintro e w5 ⟨rfl, hb5⟩; have HLx := Lib.hid (LI_step HL.out hb5); clear HL hb5; have HL := HLx; clear HLx; (try clear l0 l1 l2 l3); obtain ⟨l0, l1, l2, l3⟩ := HL.out) | (go_at_call 14; refine (HBO.out _ l3).mono ?_; rintro e w6 ⟨rfl, hb6⟩; have HLx := Lib.hid (LI_step HL.out hb6); clear HL hb6; have HL := HLx; clear HLx; (try clear l0 l1 l2 l3); obtain ⟨l0, l1, l2, l3⟩ := HL.out) | (go_at_call 17; refine (HFI.out _ l3).mono ?_; rintro e w7 ⟨rfl, hb7⟩; have HLx := Lib.hid (LI_step HL.out hb7); clear HL hb7; have HL := HLx; clear HLx; (try clear l0 l1 l2 l3); obtain ⟨l0, l1, l2, l3⟩ := HL.out) | (go_at_call 18; refine (HFD.out _ l3).mono ?_; rintro e w8 ⟨rfl, hb8⟩; have HLx := Lib.hid (LI_step HL.out hb8); clear HL hb8; have HL := HLx; clear HLx; (try clear l0 l1 l2 l3); obtain ⟨l0, l1, l2, l3⟩ := HL.out) | (go_at_call 19; refine (HAG.out _ l3).mono ?_; rintro e w9 ⟨rfl, hb9⟩; have HLx := Lib.hid (LI_step HL.out hb9); clear HL hb9; have HL := HLx; clear HLx; (try clear l0 l1 l2 l3); obtain ⟨l0, l1, l2, l3⟩ := HL.out))
    go_ret
    exact ⟨rfl, l3⟩
set_option maxRecDepth 100000 in
set_option maxHeartbeats 4000000 in
theorem True_f (a : Option Addr) (n c : Nat) (ba : Option Addr) (m bc : Nat) (ss : Nat → SV) (bs : Nat → BM) (fa : Option Addr) (k fc : Nat) (f : Nat → Int) (w : World) (h : TrIn a n c ba m bc ss bs fa k f w) (hyes : TrYes n ss m bs k) (g : List Int) (t : List (List Int)) (hA : allF n ss m bs = g :: t) (hf : fieldB n ss k f = false) :
    Calls Tryd.prog 4 #[imageV a n c ba m bc, .slice fa k fc] w fun e w' => e = .returned (.bool true) ∧ Below w.heap.size w w' := by
  have hC := hyes.2.1; have hk := h.lk; unfold maxLen at hk; have HKN := Lib.hid (fun (W : World) (hb : Below w.heap.size w W) => h.knownC hb); have HST := Lib.hid (fun (W : World) (hb : Below w.heap.size w W) => h.short hb); have HCH := Lib.hid (fun (W : World) (hb : Below w.heap.size w W) => h.check hb); have HFS := Lib.hid (fun (W : World) (hb : Below w.heap.size w W) => h.fields hC hb); have HFD := Lib.hid (fun (W : World) (hb : Below w.heap.size w W) => h.fieldC (fc := fc) hb); have HAG0 := Lib.hid (fun (hf : fieldB n ss k f = true) (W : World) (hb : Below w.heap.size w W) => h.agrees (fc := fc) hC hf hb); obtain ⟨g1, g3, g4, g5⟩ := hyes; rw [g1] at HST; rw [g3] at HCH; generalize min (prodN ss n) 200001 = P at *; have g4' : ¬ 20000 < P := (by omega); have g5' : ¬ 60 < (k : Int) := (by omega); clear g1 g4 g5 g3
  have hne : allF n ss m bs ≠ [] := by rw [hA]; simp
  have hn40 := (checkN_shape hC).n40
  have HFI := Lib.hid (fun (W : World) (hb : Below w.heap.size w W) => h.first1 hC hA hb)
  have HBO := Lib.hid (fun (W : World) (hb : Below w.heap.size w W) => h.bounds1 hC hne hb)
  have HF2 := Lib.hid (fun (W : World) (hb : Below w.heap.size w W) (ga : Option Addr) (gc : Nat) (F : Nat → Int) (hG : TrF n ss m bs W ga F) => h.field2 hb gc hG)
  have HA2 := Lib.hid (fun (W : World) (hb : Below w.heap.size w W) (ga : Option Addr) (gc : Nat) (F : Nat → Int) (hG : TrF n ss m bs W ga F) => h.agrees2 hC hb gc hG)
  have HWT := Lib.hid (fun (i : Nat) (hi : i < n) (W : World) (hb : Below w.heap.size w W) (d : Int) (hd : d = (bndF n ss m bs i).lo ∨ d = (bndF n ss m bs i).hi) => h.wit hC hne hb i hi d hd)
  rw [hf] at HFD
  clear HAG0
  have m1 : True := trivial
  generalize bndF n ss m bs = bb at *
  clear hA hC h hne
  go_enter Tryd.func4, Tryd.ntmps4; go_upto_region 1 with (fail); have HL := Lib.hid (show LI a n c ba m bc w (w.alloc (.cells #[.slice a n c, .slice ba m bc] 25)) from LI_start); generalize World.alloc w _ = V at *; obtain ⟨l0, l1, l2, l3⟩ := HL.out
  go_upto_region 11 with (first | (go_at_call 9; refine (HST.out _ l3).mono ?_; rintro e w2 ⟨rfl, hb2⟩; have HLx := Lib.hid (LI_step HL.out hb2); clear HL hb2; have HL := HLx; clear HLx; (try clear l0 l1 l2 l3); obtain ⟨l0, l1, l2, l3⟩ := HL.out) | (go_at_call 10; refine (HCH.out _ l3).mono ?_; rintro e w3 ⟨rfl, hb3⟩; have HLx := Lib.hid (LI_step HL.out hb3); clear HL hb3; have HL := HLx; clear HLx; (try clear l0 l1 l2 l3); obtain ⟨l0, l1, l2, l3⟩ := HL.out) | (go_at_call 11; refine (HFS.out _ l3).mono ?_; rintro e w4 ⟨rfl, hb4⟩; have HLx := Lib.hid (LI_step HL.out hb4); clear HL hb4; have HL := HLx; clear HLx; (try clear l0 l1 l2 l3); obtain ⟨l0, l1, l2, l3⟩ := HL.out) | (go_at_call 13; refine (HKN.out _ l3).mono ?_; rintro e w5 ⟨rfl, hb5⟩; have HLx := Lib.hid (LI_step HL.out hb5); clear HL hb5; have HL := HLx; clear HLx; (try clear l0 l1 l2 l3); obtain ⟨l0, l1, l2, l3⟩ := HL.out) | (go_at_call 14; refine (HBO.out _ l3).mono ?_; rintro e w6 ⟨⟨ob, rfl, hO⟩, hb6⟩; have HO := Lib.hid hO; clear hO; have HLx := Lib.hid (LI_step HL.out hb6); clear HL hb6; have HL := HLx; clear HLx; (try clear l0 l1 l2 l3); obtain ⟨l0, l1, l2, l3⟩ := HL.out) | (go_at_call 17; refine (HFI.out _ l3).mono ?_; rintro e w7 ⟨⟨ga, gc, rfl, hG⟩, hb7⟩; have HOx := Lib.hid ((HO.out.below hb7).up (hb7).size); clear HO; have HO := HOx; clear HOx; have HG := Lib.hid hG; clear hG; have HLx := Lib.hid (LI_step HL.out hb7); clear HL hb7; have HL := HLx; clear HLx; (try clear l0 l1 l2 l3); obtain ⟨l0, l1, l2, l3⟩ := HL.out) | (have _ := m1; clear m1; go_at_call 18; refine (HFD.out _ l3).mono ?_; rintro e w8 ⟨rfl, hb8⟩; have HOx := Lib.hid ((HO.out.below hb8).up (hb8).size); clear HO; have HO := HOx; clear HOx; have HGx := Lib.hid (HG.out.step hb8); clear HG; have HG := HGx; clear HGx; have HLx := Lib.hid (LI_step HL.out hb8); clear HL hb8; have HL := HLx; clear HLx; (try clear l0 l1 l2 l3); obtain ⟨l0, l1, l2, l3⟩ := HL.out) | (go_at_call 18; refine (HF2.out _ l3 _ _ _ HG.out).mono ?_; rintro e wa ⟨rfl, hba⟩; have HOx := Lib.hid ((HO.out.below hba).up (hba).size); clear HO; have HO := HOx; clear HOx; have HGx := Lib.hid (HG.out.step hba); clear HG; have HG := HGx; clear HGx; have HLx := Lib.hid (LI_step HL.out hba); clear HL hba; have HL := HLx; clear HLx; (try clear l0 l1 l2 l3); obtain ⟨l0, l1, l2, l3⟩ := HL.out) | (go_at_call 19; refine (HA2.out _ l3 _ _ _ HG.out).mono ?_; rintro e wb ⟨rfl, hbb⟩; have HOx := Lib.hid ((HO.out.below hbb).up (hbb).size); clear HO; have HO := HOx; clear HOx; have HGx := Lib.hid (HG.out.step hbb); clear HG; have HG := HGx; clear HGx; have HLx := Lib.hid (LI_step HL.out hbb); clear HL hbb; have HL := HLx; clear HLx; (try clear l0 l1 l2 l3); obtain ⟨l0, l1, l2, l3⟩ := HL.out))
  go_loopw [10] (fun t wr => ∃ ci : Nat, ci ≤ n ∧ t = .int .i64 (ci : Int) ∧ Hid (LI a n c ba m bc w wr ∧ Spans wr.heap.size wr (some ⟨ob, 0, none⟩) n bb)) (fun t _ => n - (intOf t).toNat)
  case atStart => exact ⟨0, Nat.zero_le _, rfl, Lib.hid ⟨HL.out, HO.out⟩⟩
  case round =>
    clear HL HO HG l0 l1 l2 l3
    obtain ⟨ci, hcn, rfl, HR⟩ := hrel
    have HL := Lib.hid HR.out.1
    have HO := Lib.hid HR.out.2
    clear HR
    obtain ⟨l0, l1, l2, l3⟩ := HL.out
    by_cases hci : ci < n
    · have hci' : (ci : Int) < (n : Int) := by omega
      have HWI0 := Lib.hid (HWT.out ci hci)

      go_upto_region 13 with (fail)
      (refine wp_region_calm (wr.heap.size) (by kernel_rfl) (by kernel_rfl) ?_; (repeat (first | go_big_quiet_step (fail) | quiet_step (fail))); refine wpQuiet_nil ?_; intro _ hw'; obtain ⟨xq, hw''⟩ := hw'; subst hw'')
      have HOx := Lib.hid ((HO.out.below (Calm.below xq)).up ((Calm.below xq)).size); clear HO; have HO := HOx; clear HOx
      have HLy := Lib.hid (LI_step HL.out (Calm.below xq)); clear HL l0 l1 l2 l3; have HL := HLy; clear HLy
      generalize Calm.val xq = V2 at *
      obtain ⟨l0, l1, l2, l3⟩ := HL.out
      go_wp2
      go_loopw [11] (fun t wr => ∃ i : Nat, i ≤ 2 ∧ t = .int .i64 (i : Int) ∧ Hid (LI a n c ba m bc w wr ∧ Spans wr.heap.size wr (some ⟨ob, 0, none⟩) n bb)) (fun t _ => 2 - (intOf t).toNat)
      case atStart => exact ⟨0, Nat.zero_le _, rfl, Lib.hid ⟨HL.out, HO.out⟩⟩
      case round =>
        clear HL HO l0 l1 l2 l3
        obtain ⟨i, hi2, rfl, HR⟩ := hrel
        have HL := Lib.hid HR.out.1
        have HO := Lib.hid HR.out.2
        clear HR
        obtain ⟨l0, l1, l2, l3⟩ := HL.out
        by_cases hi : i < 2
        · have hi' : (i : Int) < 2 := by omega
          obtain ⟨b1, b2, b3, b4, b5, b6⟩ := HO.out.get hci
          injection b3 with b3
          injection b3 with b7 b8
          subst b7 b8
          rw [Nat.zero_add] at b5 b6
          by_cases e0 : i = 0
          · subst e0
            have HWI := Lib.hid (fun (W : World) (hb : Below w.heap.size w W) (d : Int) (hd : d = (bb ci).lo) => HWI0.out W hb d (.inl hd))
            have HD := Lib.hid (show (bb ci).lo = (bb ci).lo from rfl)
            generalize (bb ci).lo = dd at *
            go_wp2_with (first | (go_at_call 21; refine (HWI.out _ l3 _ HD.out).mono ?_; rintro e wd ⟨⟨xa, xc, F, rfl, hG, hF⟩, hbd⟩; have HOx := Lib.hid ((HO.out.below hbd).up (hbd).size); clear HO; have HO := HOx; clear HOx; have HG := Lib.hid hG; have HFE := Lib.hid hF; obtain ⟨gb, go, hga, hgB, g0⟩ := hG.1.get hci; subst hga; rw [hF] at g0; clear hG hF; have HLx := Lib.hid (LI_step HL.out hbd); clear HL hbd; have HL := HLx; clear HLx; (try clear l0 l1 l2 l3); obtain ⟨l0, l1, l2, l3⟩ := HL.out) | (go_at_call 18; refine (HF2.out _ l3 _ _ _ HG.out).mono ?_; rintro e wa ⟨rfl, hba⟩; have HOx := Lib.hid ((HO.out.below hba).up (hba).size); clear HO; have HO := HOx; clear HOx; have HGx := Lib.hid (HG.out.step hba); clear HG; have HG := HGx; clear HGx; have g1 := ((bcell hba).1 gb _ hgB).trans g0; have hgC := Nat.lt_of_lt_of_le hgB hba.size; clear g0 hgB; have g0 := g1; have hgB := hgC; clear g1 hgC; have HLx := Lib.hid (LI_step HL.out hba); clear HL hba; have HL := HLx; clear HLx; (try clear l0 l1 l2 l3); obtain ⟨l0, l1, l2, l3⟩ := HL.out) | (go_at_call 19; refine (HA2.out _ l3 _ _ _ HG.out).mono ?_; rintro e wb ⟨rfl, hbb⟩; have HOx := Lib.hid ((HO.out.below hbb).up (hbb).size); clear HO; have HO := HOx; clear HOx; have HGx := Lib.hid (HG.out.step hbb); clear HG; have HG := HGx; clear HGx; have g1 := ((bcell hbb).1 gb _ hgB).trans g0; have hgC := Nat.lt_of_lt_of_le hgB hbb.size; clear g0 hgB; have g0 := g1; have hgB := hgC; clear g1 hgC; have HLx := Lib.hid (LI_step HL.out hbb); clear HL hbb; have HL := HLx; clear HLx; (try clear l0 l1 l2 l3); obtain ⟨l0, l1, l2, l3⟩ := HL.out))
            go_roundw
            case rel => exact ⟨1, by omega, by go_num, Lib.hid ⟨HL.out, HO.out⟩⟩
            case measure => simp [intOf]
          · obtain rfl : i = 1 := by omega
            have HWI := Lib.hid (fun (W : World) (hb : Below w.heap.size w W) (d : Int) (hd : d = (bb ci).hi) => HWI0.out W hb d (.inr hd))
            have HD := Lib.hid (show (bb ci).hi = (bb ci).hi from rfl)
            clear e0
            generalize (bb ci).hi = dd at *
            go_wp2_with (first | (go_at_call 21; refine (HWI.out _ l3 _ HD.out).mono ?_; rintro e wd ⟨⟨xa, xc, F, rfl, hG, hF⟩, hbd⟩; have HOx := Lib.hid ((HO.out.below hbd).up (hbd).size); clear HO; have HO := HOx; clear HOx; have HG := Lib.hid hG; have HFE := Lib.hid hF; obtain ⟨gb, go, hga, hgB, g0⟩ := hG.1.get hci; subst hga; rw [hF] at g0; clear hG hF; have HLx := Lib.hid (LI_step HL.out hbd); clear HL hbd; have HL := HLx; clear HLx; (try clear l0 l1 l2 l3); obtain ⟨l0, l1, l2, l3⟩ := HL.out) | (go_at_call 18; refine (HF2.out _ l3 _ _ _ HG.out).mono ?_; rintro e wa ⟨rfl, hba⟩; have HOx := Lib.hid ((HO.out.below hba).up (hba).size); clear HO; have HO := HOx; clear HOx; have HGx := Lib.hid (HG.out.step hba); clear HG; have HG := HGx; clear HGx; have g1 := ((bcell hba).1 gb _ hgB).trans g0; have hgC := Nat.lt_of_lt_of_le hgB hba.size; clear g0 hgB; have g0 := g1; have hgB := hgC; clear g1 hgC; have HLx := Lib.hid (LI_step HL.out hba); clear HL hba; have HL := HLx; clear HLx; (try clear l0 l1 l2 l3); obtain ⟨l0, l1, l2, l3⟩ := HL.out) | (go_at_call 19; refine (HA2.out _ l3 _ _ _ HG.out).mono ?_; rintro e wb ⟨rfl, hbb⟩; have HOx := Lib.hid ((HO.out.below hbb).up (hbb).size); clear HO; have HO := HOx; clear HOx; have HGx := Lib.hid (HG.out.step hbb); clear HG; have HG := HGx; clear HGx; have g1 := ((bcell hbb).1 gb _ hgB).trans g0; have hgC := Nat.lt_of_lt_of_le hgB hbb.size; clear g0 hgB; have g0 := g1; have hgB := hgC; clear g1 hgC; have HLx := Lib.hid (LI_step HL.out hbb); clear HL hbb; have HL := HLx; clear HLx; (try clear l0 l1 l2 l3); obtain ⟨l0, l1, l2, l3⟩ := HL.out))
            go_roundw
            case rel => exact ⟨2, by omega, by go_num, Lib.hid ⟨HL.out, HO.out⟩⟩
            case measure => simp [intOf]
        · obtain rfl : i = 2 := by omega
          go_wp2
          go_roundw
          case rel => exact ⟨ci + 1, by omega, by go_num, Lib.hid ⟨HL.out, HO.out⟩⟩
          case measure => simp [intOf]; omega
    · obtain rfl : ci = n := by omega
      have hci' : ¬ (ci : Int) < (ci : Int) := by omega
      go_wp2_with (go_at_call 13; refine (HKN.out _ l3).mono ?_; rintro e w5 ⟨rfl, hb5⟩; have HLx := Lib.hid (LI_step HL.out hb5); clear HL hb5; have HL := HLx; clear HLx; (try clear l0 l1 l2 l3); obtain ⟨l0, l1, l2, l3⟩ := HL.out)
      go_ret
      exact ⟨rfl, l3⟩
set_option maxRecDepth 100000 in
set_option maxHeartbeats 4000000 in
theorem True_tf (a : Option Addr) (n c : Nat) (ba : Option Addr) (m bc : Nat) (ss : Nat → SV) (bs : Nat → BM) (fa : Option Addr) (k fc : Nat) (f : Nat → Int) (w : World) (h : TrIn a n c ba m bc ss bs fa k f w) (hyes : TrYes n ss m bs k) (g : List Int) (t : List (List Int)) (hA : allF n ss m bs = g :: t) (hf : fieldB n ss k f = true) (hg : agreesB m bs f = false) :
    Calls Tryd.prog 4 #[imageV a n c ba m bc, .slice fa k fc] w fun e w' => e = .returned (.bool true) ∧ Below w.heap.size w w' := by
  have hC := hyes.2.1; have hk := h.lk; unfold maxLen at hk; have HKN := Lib.hid (fun (W : World) (hb : Below w.heap.size w W) => h.knownC hb); have HST := Lib.hid (fun (W : World) (hb : Below w.heap.size w W) => h.short hb); have HCH := Lib.hid (fun (W : World) (hb : Below w.heap.size w W) => h.check hb); have HFS := Lib.hid (fun (W : World) (hb : Below w.heap.size w W) => h.fields hC hb); have HFD := Lib.hid (fun (W : World) (hb : Below w.heap.size w W) => h.fieldC (fc := fc) hb); have HAG0 := Lib.hid (fun (hf : fieldB n ss k f = true) (W : World) (hb : Below w.heap.size w W) => h.agrees (fc := fc) hC hf hb); obtain ⟨g1, g3, g4, g5⟩ := hyes; rw [g1] at HST; rw [g3] at HCH; generalize min (prodN ss n) 200001 = P at *; have g4' : ¬ 20000 < P := (by omega); have g5' : ¬ 60 < (k : Int) := (by omega); clear g1 g4 g5 g3
  have hne : allF n ss m bs ≠ [] := by rw [hA]; simp
  have hn40 := (checkN_shape hC).n40
  have HFI := Lib.hid (fun (W : World) (hb : Below w.heap.size w W) => h.first1 hC hA hb)
  have HBO := Lib.hid (fun (W : World) (hb : Below w.heap.size w W) => h.bounds1 hC hne hb)
  have HF2 := Lib.hid (fun (W : World) (hb : Below w.heap.size w W) (ga : Option Addr) (gc : Nat) (F : Nat → Int) (hG : TrF n ss m bs W ga F) => h.field2 hb gc hG)
  have HA2 := Lib.hid (fun (W : World) (hb : Below w.heap.size w W) (ga : Option Addr) (gc : Nat) (F : Nat → Int) (hG : TrF n ss m bs W ga F) => h.agrees2 hC hb gc hG)
  have HWT := Lib.hid (fun (i : Nat) (hi : i < n) (W : World) (hb : Below w.heap.size w W) (d : Int) (hd : d = (bndF n ss m bs i).lo ∨ d = (bndF n ss m bs i).hi) => h.wit hC hne hb i hi d hd)
  rw [hf] at HFD
  have HAG := Lib.hid (HAG0.out hf)
  rw [hg] at HAG
  clear HAG0
  have m1 : True := trivial
  have m2 : True := trivial
  generalize bndF n ss m bs = bb at *
  clear hA hC h hne
  go_enter Tryd.func4, Tryd.ntmps4; go_upto_region 1 with (fail); have HL := Lib.hid (show LI a n c ba m bc w (w.alloc (.cells #[.slice a n c, .slice ba m bc] 25)) from LI_start); generalize World.alloc w _ = V at *; obtain ⟨l0, l1, l2, l3⟩ := HL.out
  go_upto_region 11 with (first | (go_at_call 9; refine (HST.out _ l3).mono ?_; rintro e w2 ⟨rfl, hb2⟩; have HLx := Lib.hid (LI_step HL.out hb2); clear HL hb2; have HL := HLx; clear HLx; (try clear l0 l1 l2 l3); obtain ⟨l0, l1, l2, l3⟩ := HL.out) | (go_at_call 10; refine (HCH.out _ l3).mono ?_; rintro e w3 ⟨rfl, hb3⟩; have HLx := Lib.hid (LI_step HL.out hb3); clear HL hb3; have HL := HLx; clear HLx; (try clear l0 l1 l2 l3); obtain ⟨l0, l1, l2, l3⟩ := HL.out) | (go_at_call 11; refine (HFS.out _ l3).mono ?_; rintro e w4 ⟨rfl, hb4⟩; have HLx := Lib.hid (LI_step HL.out hb4); clear HL hb4; have HL := HLx; clear HLx; (try clear l0 l1 l2 l3); obtain ⟨l0, l1, l2, l3⟩ := HL.out) | (go_at_call 13; refine (HKN.out _ l3).mono ?_; rintro e w5 ⟨rfl, hb5⟩; have HLx := Lib.hid (LI_step HL.out hb5); clear HL hb5; have HL := HLx; clear HLx; (try clear l0 l1 l2 l3); obtain ⟨l0, l1, l2, l3⟩ := HL.out) | (go_at_call 14; refine (HBO.out _ l3).mono ?_; rintro e w6 ⟨⟨ob, rfl, hO⟩, hb6⟩; have HO := Lib.hid hO; clear hO; have HLx := Lib.hid (LI_step HL.out hb6); clear HL hb6; have HL := HLx; clear HLx; (try clear l0 l1 l2 l3); obtain ⟨l0, l1, l2, l3⟩ := HL.out) | (go_at_call 17; refine (HFI.out _ l3).mono ?_; rintro e w7 ⟨⟨ga, gc, rfl, hG⟩, hb7⟩; have HOx := Lib.hid ((HO.out.below hb7).up (hb7).size); clear HO; have HO := HOx; clear HOx; have HG := Lib.hid hG; clear hG; have HLx := Lib.hid (LI_step HL.out hb7); clear HL hb7; have HL := HLx; clear HLx; (try clear l0 l1 l2 l3); obtain ⟨l0, l1, l2, l3⟩ := HL.out) | (have _ := m1; clear m1; go_at_call 18; refine (HFD.out _ l3).mono ?_; rintro e w8 ⟨rfl, hb8⟩; have HOx := Lib.hid ((HO.out.below hb8).up (hb8).size); clear HO; have HO := HOx; clear HOx; have HGx := Lib.hid (HG.out.step hb8); clear HG; have HG := HGx; clear HGx; have HLx := Lib.hid (LI_step HL.out hb8); clear HL hb8; have HL := HLx; clear HLx; (try clear l0 l1 l2 l3); obtain ⟨l0, l1, l2, l3⟩ := HL.out) | (have _ := m2; clear m2; go_at_call 19; refine (HAG.out _ l3).mono ?_; rintro e w9 ⟨rfl, hb9⟩; have HOx := Lib.hid ((HO.out.below hb9).up (hb9).size); clear HO; have HO := HOx; clear HOx; have HGx := Lib.hid (HG.out.step hb9); clear HG; have HG := HGx; clear HGx; have HLx := Lib.hid (LI_step HL.out hb9); clear HL hb9; have HL := HLx; clear HLx; (try clear l0 l1 l2 l3); obtain ⟨l0, l1, l2, l3⟩ := HL.out) | (go_at_call 18; refine (HF2.out _ l3 _ _ _ HG.out).mono ?_; rintro e wa ⟨rfl, hba⟩; have HOx := Lib.hid ((HO.out.below hba).up (hba).size); clear HO; have HO := HOx; clear HOx; have HGx := Lib.hid (HG.out.step hba); clear HG; have HG := HGx; clear HGx; have HLx := Lib.hid (LI_step HL.out hba); clear HL hba; have HL := HLx; clear HLx; (try clear l0 l1 l2 l3); obtain ⟨l0, l1, l2, l3⟩ := HL.out) | (go_at_call 19; refine (HA2.out _ l3 _ _ _ HG.out).mono ?_; rintro e wb ⟨rfl, hbb⟩; have HOx := Lib.hid ((HO.out.below hbb).up (hbb).size); clear HO; have HO := HOx; clear HOx; have HGx := Lib.hid (HG.out.step hbb); clear HG; have HG := HGx; clear HGx; have HLx := Lib.hid (LI_step HL.out hbb); clear HL hbb; have HL := HLx; clear HLx; (try clear l0 l1 l2 l3); obtain ⟨l0, l1, l2, l3⟩ := HL.out))
  go_loopw [10] (fun t wr => ∃ ci : Nat, ci ≤ n ∧ t = .int .i64 (ci : Int) ∧ Hid (LI a n c ba m bc w wr ∧ Spans wr.heap.size wr (some ⟨ob, 0, none⟩) n bb)) (fun t _ => n - (intOf t).toNat)
  case atStart => exact ⟨0, Nat.zero_le _, rfl, Lib.hid ⟨HL.out, HO.out⟩⟩
  case round =>
    clear HL HO HG l0 l1 l2 l3
    obtain ⟨ci, hcn, rfl, HR⟩ := hrel
    have HL := Lib.hid HR.out.1
    have HO := Lib.hid HR.out.2
    clear HR
    obtain ⟨l0, l1, l2, l3⟩ := HL.out
    by_cases hci : ci < n
    · have hci' : (ci : Int) < (n : Int) := by omega
      have HWI0 := Lib.hid (HWT.out ci hci)

      go_upto_region 13 with (fail)
      (refine wp_region_calm (wr.heap.size) (by kernel_rfl) (by kernel_rfl) ?_; (repeat (first | go_big_quiet_step (fail) | quiet_step (fail))); refine wpQuiet_nil ?_; intro _ hw'; obtain ⟨xq, hw''⟩ := hw'; subst hw'')
      have HOx := Lib.hid ((HO.out.below (Calm.below xq)).up ((Calm.below xq)).size); clear HO; have HO := HOx; clear HOx
      have HLy := Lib.hid (LI_step HL.out (Calm.below xq)); clear HL l0 l1 l2 l3; have HL := HLy; clear HLy
      generalize Calm.val xq = V2 at *
      obtain ⟨l0, l1, l2, l3⟩ := HL.out
      go_wp2
      go_loopw [11] (fun t wr => ∃ i : Nat, i ≤ 2 ∧ t = .int .i64 (i : Int) ∧ Hid (LI a n c ba m bc w wr ∧ Spans wr.heap.size wr (some ⟨ob, 0, none⟩) n bb)) (fun t _ => 2 - (intOf t).toNat)
      case atStart => exact ⟨0, Nat.zero_le _, rfl, Lib.hid ⟨HL.out, HO.out⟩⟩
      case round =>
        clear HL HO l0 l1 l2 l3
        obtain ⟨i, hi2, rfl, HR⟩ := hrel
        have HL := Lib.hid HR.out.1
        have HO := Lib.hid HR.out.2
        clear HR
        obtain ⟨l0, l1, l2, l3⟩ := HL.out
        by_cases hi : i < 2
        · have hi' : (i : Int) < 2 := by omega
          obtain ⟨b1, b2, b3, b4, b5, b6⟩ := HO.out.get hci
          injection b3 with b3
          injection b3 with b7 b8
          subst b7 b8
          rw [Nat.zero_add] at b5 b6
          by_cases e0 : i = 0
          · subst e0
            have HWI := Lib.hid (fun (W : World) (hb : Below w.heap.size w W) (d : Int) (hd : d = (bb ci).lo) => HWI0.out W hb d (.inl hd))
            have HD := Lib.hid (show (bb ci).lo = (bb ci).lo from rfl)
            generalize (bb ci).lo = dd at *
            go_wp2_with (first | (go_at_call 21; refine (HWI.out _ l3 _ HD.out).mono ?_; rintro e wd ⟨⟨xa, xc, F, rfl, hG, hF⟩, hbd⟩; have HOx := Lib.hid ((HO.out.below hbd).up (hbd).size); clear HO; have HO := HOx; clear HOx; have HG := Lib.hid hG; have HFE := Lib.hid hF; obtain ⟨gb, go, hga, hgB, g0⟩ := hG.1.get hci; subst hga; rw [hF] at g0; clear hG hF; have HLx := Lib.hid (LI_step HL.out hbd); clear HL hbd; have HL := HLx; clear HLx; (try clear l0 l1 l2 l3); obtain ⟨l0, l1, l2, l3⟩ := HL.out) | (go_at_call 18; refine (HF2.out _ l3 _ _ _ HG.out).mono ?_; rintro e wa ⟨rfl, hba⟩; have HOx := Lib.hid ((HO.out.below hba).up (hba).size); clear HO; have HO := HOx; clear HOx; have HGx := Lib.hid (HG.out.step hba); clear HG; have HG := HGx; clear HGx; have g1 := ((bcell hba).1 gb _ hgB).trans g0; have hgC := Nat.lt_of_lt_of_le hgB hba.size; clear g0 hgB; have g0 := g1; have hgB := hgC; clear g1 hgC; have HLx := Lib.hid (LI_step HL.out hba); clear HL hba; have HL := HLx; clear HLx; (try clear l0 l1 l2 l3); obtain ⟨l0, l1, l2, l3⟩ := HL.out) | (go_at_call 19; refine (HA2.out _ l3 _ _ _ HG.out).mono ?_; rintro e wb ⟨rfl, hbb⟩; have HOx := Lib.hid ((HO.out.below hbb).up (hbb).size); clear HO; have HO := HOx; clear HOx; have HGx := Lib.hid (HG.out.step hbb); clear HG; have HG := HGx; clear HGx; have g1 := ((bcell hbb).1 gb _ hgB).trans g0; have hgC := Nat.lt_of_lt_of_le hgB hbb.size; clear g0 hgB; have g0 := g1; have hgB := hgC; clear g1 hgC; have HLx := Lib.hid (LI_step HL.out hbb); clear HL hbb; have HL := HLx; clear HLx; (try clear l0 l1 l2 l3); obtain ⟨l0, l1, l2, l3⟩ := HL.out))
            go_roundw
            case rel => exact ⟨1, by omega, by go_num, Lib.hid ⟨HL.out, HO.out⟩⟩
            case measure => simp [intOf]
          · obtain rfl : i = 1 := by omega
            have HWI := Lib.hid (fun (W : World) (hb : Below w.heap.size w W) (d : Int) (hd : d = (bb ci).hi) => HWI0.out W hb d (.inr hd))
            have HD := Lib.hid (show (bb ci).hi = (bb ci).hi from rfl)
            clear e0
            generalize (bb ci).hi = dd at *
            go_wp2_with (first | (go_at_call 21; refine (HWI.out _ l3 _ HD.out).mono ?_; rintro e wd ⟨⟨xa, xc, F, rfl, hG, hF⟩, hbd⟩; have HOx := Lib.hid ((HO.out.below hbd).up (hbd).size); clear HO; have HO := HOx; clear HOx; have HG := Lib.hid hG; have HFE := Lib.hid hF; obtain ⟨gb, go, hga, hgB, g0⟩ := hG.1.get hci; subst hga; rw [hF] at g0; clear hG hF; have HLx := Lib.hid (LI_step HL.out hbd); clear HL hbd; have HL := HLx; clear HLx; (try clear l0 l1 l2 l3); obtain ⟨l0, l1, l2, l3⟩ := HL.out) | (go_at_call 18; refine (HF2.out _ l3 _ _ _ HG.out).mono ?_; rintro e wa ⟨rfl, hba⟩; have HOx := Lib.hid ((HO.out.below hba).up (hba).size); clear HO; have HO := HOx; clear HOx; have HGx := Lib.hid (HG.out.step hba); clear HG; have HG := HGx; clear HGx; have g1 := ((bcell hba).1 gb _ hgB).trans g0; have hgC := Nat.lt_of_lt_of_le hgB hba.size; clear g0 hgB; have g0 := g1; have hgB := hgC; clear g1 hgC; have HLx := Lib.hid (LI_step HL.out hba); clear HL hba; have HL := HLx; clear HLx; (try clear l0 l1 l2 l3); obtain ⟨l0, l1, l2, l3⟩ := HL.out) | (go_at_call 19; refine (HA2.out _ l3 _ _ _ HG.out).mono ?_; rintro e wb ⟨rfl, hbb⟩; have HOx := Lib.hid ((HO.out.below hbb).up (hbb).size); clear HO; have HO := HOx; clear HOx; have HGx := Lib.hid (HG.out.step hbb); clear HG; have HG := HGx; clear HGx; have g1 := ((bcell hbb).1 gb _ hgB).trans g0; have hgC := Nat.lt_of_lt_of_le hgB hbb.size; clear g0 hgB; have g0 := g1; have hgB := hgC; clear g1 hgC; have HLx := Lib.hid (LI_step HL.out hbb); clear HL hbb; have HL := HLx; clear HLx; (try clear l0 l1 l2 l3); obtain ⟨l0, l1, l2, l3⟩ := HL.out))
            go_roundw
            case rel => exact ⟨2, by omega, by go_num, Lib.hid ⟨HL.out, HO.out⟩⟩
            case measure => simp [intOf]
        · obtain rfl : i = 2 := by omega
          go_wp2
          go_roundw
          case rel => exact ⟨ci + 1, by omega, by go_num, Lib.hid ⟨HL.out, HO.out⟩⟩
          case measure => simp [intOf]; omega
    · obtain rfl : ci = n := by omega
      have hci' : ¬ (ci : Int) < (ci : Int) := by omega
      go_wp2_with (go_at_call 13; refine (HKN.out _ l3).mono ?_; rintro e w5 ⟨rfl, hb5⟩; have HLx := Lib.hid (LI_step HL.out hb5); clear HL hb5; have HL := HLx; clear HLx; (try clear l0 l1 l2 l3); obtain ⟨l0, l1, l2, l3⟩ := HL.out)
      go_ret
      exact ⟨rfl, l3⟩
set_option maxRecDepth 100000 in
set_option maxHeartbeats 4000000 in
theorem True_tt (a : Option Addr) (n c : Nat) (ba : Option Addr) (m bc : Nat) (ss : Nat → SV) (bs : Nat → BM) (fa : Option Addr) (k fc : Nat) (f : Nat → Int) (w : World) (h : TrIn a n c ba m bc ss bs fa k f w) (hyes : TrYes n ss m bs k) (g : List Int) (t : List (List Int)) (hA : allF n ss m bs = g :: t) (hf : fieldB n ss k f = true) (hg : agreesB m bs f = true) :
    Calls Tryd.prog 4 #[imageV a n c ba m bc, .slice fa k fc] w fun e w' => e = .returned (.bool true) ∧ Below w.heap.size w w' := by
  have hC := hyes.2.1; have hk := h.lk; unfold maxLen at hk; have HKN := Lib.hid (fun (W : World) (hb : Below w.heap.size w W) => h.knownC hb); have HST := Lib.hid (fun (W : World) (hb : Below w.heap.size w W) => h.short hb); have HCH := Lib.hid (fun (W : World) (hb : Below w.heap.size w W) => h.check hb); have HFS := Lib.hid (fun (W : World) (hb : Below w.heap.size w W) => h.fields hC hb); have HFD := Lib.hid (fun (W : World) (hb : Below w.heap.size w W) => h.fieldC (fc := fc) hb); have HAG0 := Lib.hid (fun (hf : fieldB n ss k f = true) (W : World) (hb : Below w.heap.size w W) => h.agrees (fc := fc) hC hf hb); obtain ⟨g1, g3, g4, g5⟩ := hyes; rw [g1] at HST; rw [g3] at HCH; generalize min (prodN ss n) 200001 = P at *; have g4' : ¬ 20000 < P := (by omega); have g5' : ¬ 60 < (k : Int) := (by omega); clear g1 g4 g5 g3
  have hne : allF n ss m bs ≠ [] := by rw [hA]; simp
  have hn40 := (checkN_shape hC).n40
  have HFI := Lib.hid (fun (W : World) (hb : Below w.heap.size w W) => h.first1 hC hA hb)
  have HBO := Lib.hid (fun (W : World) (hb : Below w.heap.size w W) => h.bounds1 hC hne hb)
  have HF2 := Lib.hid (fun (W : World) (hb : Below w.heap.size w W) (ga : Option Addr) (gc : Nat) (F : Nat → Int) (hG : TrF n ss m bs W ga F) => h.field2 hb gc hG)
  have HA2 := Lib.hid (fun (W : World) (hb : Below w.heap.size w W) (ga : Option Addr) (gc : Nat) (F : Nat → Int) (hG : TrF n ss m bs W ga F) => h.agrees2 hC hb gc hG)
  have HWT := Lib.hid (fun (i : Nat) (hi : i < n) (W : World) (hb : Below w.heap.size w W) (d : Int) (hd : d = (bndF n ss m bs i).lo ∨ d = (bndF n ss m bs i).hi) => h.wit hC hne hb i hi d hd)
  rw [hf] at HFD
  have HAG := Lib.hid (HAG0.out hf)
  rw [hg] at HAG
  clear HAG0
  have m1 : True := trivial
  have m2 : True := trivial
  obtain ⟨hkn, hbox⟩ := fieldB_iff.1 hf
  have HOR := Lib.hid (fun (W : World) (hb : Below w.heap.size w W) (ga : Option Addr) (gc : Nat) (hG : TrF n ss m bs W ga (fOf g)) => h.order (fc := fc) hC hA hkn hbox hg hb ga gc hG)
  have HBD := Lib.hid (fun (i : Nat) (hi : i < n) => own_bnd (checkN_shape hC) hbox hg hi)
  have HFL := Lib.hid h.field
  have hkm := hkn.symm
  subst hkm
  generalize bndF n ss m bs = bb at *
  clear hA hC h hne
  go_enter Tryd.func4, Tryd.ntmps4; go_upto_region 1 with (fail); have HL := Lib.hid (show LI a n c ba m bc w (w.alloc (.cells #[.slice a n c, .slice ba m bc] 25)) from LI_start); generalize World.alloc w _ = V at *; obtain ⟨l0, l1, l2, l3⟩ := HL.out
  go_upto_region 11 with (first | (go_at_call 9; refine (HST.out _ l3).mono ?_; rintro e w2 ⟨rfl, hb2⟩; have HLx := Lib.hid (LI_step HL.out hb2); clear HL hb2; have HL := HLx; clear HLx; (try clear l0 l1 l2 l3); obtain ⟨l0, l1, l2, l3⟩ := HL.out) | (go_at_call 10; refine (HCH.out _ l3).mono ?_; rintro e w3 ⟨rfl, hb3⟩; have HLx := Lib.hid (LI_step HL.out hb3); clear HL hb3; have HL := HLx; clear HLx; (try clear l0 l1 l2 l3); obtain ⟨l0, l1, l2, l3⟩ := HL.out) | (go_at_call 11; refine (HFS.out _ l3).mono ?_; rintro e w4 ⟨rfl, hb4⟩; have HLx := Lib.hid (LI_step HL.out hb4); clear HL hb4; have HL := HLx; clear HLx; (try clear l0 l1 l2 l3); obtain ⟨l0, l1, l2, l3⟩ := HL.out) | (go_at_call 13; refine (HKN.out _ l3).mono ?_; rintro e w5 ⟨rfl, hb5⟩; have HLx := Lib.hid (LI_step HL.out hb5); clear HL hb5; have HL := HLx; clear HLx; (try clear l0 l1 l2 l3); obtain ⟨l0, l1, l2, l3⟩ := HL.out) | (go_at_call 14; refine (HBO.out _ l3).mono ?_; rintro e w6 ⟨⟨ob, rfl, hO⟩, hb6⟩; have HO := Lib.hid hO; clear hO; have HLx := Lib.hid (LI_step HL.out hb6); clear HL hb6; have HL := HLx; clear HLx; (try clear l0 l1 l2 l3); obtain ⟨l0, l1, l2, l3⟩ := HL.out) | (go_at_call 17; refine (HFI.out _ l3).mono ?_; rintro e w7 ⟨⟨ga, gc, rfl, hG⟩, hb7⟩; have HOx := Lib.hid ((HO.out.below hb7).up (hb7).size); clear HO; have HO := HOx; clear HOx; have HG := Lib.hid hG; clear hG; have HLx := Lib.hid (LI_step HL.out hb7); clear HL hb7; have HL := HLx; clear HLx; (try clear l0 l1 l2 l3); obtain ⟨l0, l1, l2, l3⟩ := HL.out) | (have _ := m1; clear m1; go_at_call 18; refine (HFD.out _ l3).mono ?_; rintro e w8 ⟨rfl, hb8⟩; have HOx := Lib.hid ((HO.out.below hb8).up (hb8).size); clear HO; have HO := HOx; clear HOx; have HGx := Lib.hid (HG.out.step hb8); clear HG; have HG := HGx; clear HGx; have HLx := Lib.hid (LI_step HL.out hb8); clear HL hb8; have HL := HLx; clear HLx; (try clear l0 l1 l2 l3); obtain ⟨l0, l1, l2, l3⟩ := HL.out) | (have _ := m2; clear m2; go_at_call 19; refine (HAG.out _ l3).mono ?_; rintro e w9 ⟨rfl, hb9⟩; have HOx := Lib.hid ((HO.out.below hb9).up (hb9).size); clear HO; have HO := HOx; clear HOx; have HGx := Lib.hid (HG.out.step hb9); clear HG; have HG := HGx; clear HGx; have HLx := Lib.hid (LI_step HL.out hb9); clear HL hb9; have HL := HLx; clear HLx; (try clear l0 l1 l2 l3); obtain ⟨l0, l1, l2, l3⟩ := HL.out) | (go_at_call 20; refine (HOR.out _ l3 _ _ HG.out).mono ?_; rintro e wc ⟨⟨r, rfl, hr⟩, hbc⟩; have HOx := Lib.hid ((HO.out.below hbc).up (hbc).size); clear HO; have HO := HOx; clear HOx; have HLx := Lib.hid (LI_step HL.out hbc); clear HL hbc; have HL := HLx; clear HLx; (try clear l0 l1 l2 l3); obtain ⟨l0, l1, l2, l3⟩ := HL.out) | (go_at_call 18; refine (HF2.out _ l3 _ _ _ HG.out).mono ?_; rintro e wa ⟨rfl, hba⟩; have HOx := Lib.hid ((HO.out.below hba).up (hba).size); clear HO; have HO := HOx; clear HOx; have HGx := Lib.hid (HG.out.step hba); clear HG; have HG := HGx; clear HGx; have HLx := Lib.hid (LI_step HL.out hba); clear HL hba; have HL := HLx; clear HLx; (try clear l0 l1 l2 l3); obtain ⟨l0, l1, l2, l3⟩ := HL.out) | (go_at_call 19; refine (HA2.out _ l3 _ _ _ HG.out).mono ?_; rintro e wb ⟨rfl, hbb⟩; have HOx := Lib.hid ((HO.out.below hbb).up (hbb).size); clear HO; have HO := HOx; clear HOx; have HGx := Lib.hid (HG.out.step hbb); clear HG; have HG := HGx; clear HGx; have HLx := Lib.hid (LI_step HL.out hbb); clear HL hbb; have HL := HLx; clear HLx; (try clear l0 l1 l2 l3); obtain ⟨l0, l1, l2, l3⟩ := HL.out))
  go_loopw [10] (fun t wr => ∃ ci : Nat, ci ≤ n ∧ t = .int .i64 (ci : Int) ∧ Hid (LI a n c ba m bc w wr ∧ Spans wr.heap.size wr (some ⟨ob, 0, none⟩) n bb)) (fun t _ => n - (intOf t).toNat)
  case atStart => exact ⟨0, Nat.zero_le _, rfl, Lib.hid ⟨HL.out, HO.out⟩⟩
  case round =>
    clear HL HO HG l0 l1 l2 l3
    obtain ⟨ci, hcn, rfl, HR⟩ := hrel
    have HL := Lib.hid HR.out.1
    have HO := Lib.hid HR.out.2
    clear HR
    obtain ⟨l0, l1, l2, l3⟩ := HL.out
    by_cases hci : ci < n
    · have hci' : (ci : Int) < (n : Int) := by omega
      have HWI0 := Lib.hid (HWT.out ci hci)
      obtain ⟨q1, q2, rfl, q4, q5⟩ := (HFL.out.below l3).get hci
      have q3 : q1 < wr.heap.size := by have := l3.size; omega
      obtain ⟨b1, b2, b3, b4, b5, b6⟩ := HO.out.get hci
      injection b3 with b3
      injection b3 with b7 b8
      subst b7 b8
      rw [Nat.zero_add] at b5 b6
      obtain ⟨q6, q7⟩ := HBD.out ci hci
      have q8 : ¬ f ci < (bb ci).lo := by omega
      have q9 : ¬ (bb ci).hi < f ci := by omega
      go_upto_region 13 with (fail)
      (refine wp_region_calm (wr.heap.size) (by kernel_rfl) (by kernel_rfl) ?_; (repeat (first | go_big_quiet_step (fail) | quiet_step (fail))); refine wpQuiet_nil ?_; intro _ hw'; obtain ⟨xq, hw''⟩ := hw'; subst hw'')
      have HOx := Lib.hid ((HO.out.below (Calm.below xq)).up ((Calm.below xq)).size); clear HO; have HO := HOx; clear HOx
      have HLy := Lib.hid (LI_step HL.out (Calm.below xq)); clear HL l0 l1 l2 l3; have HL := HLy; clear HLy
      generalize Calm.val xq = V2 at *
      obtain ⟨l0, l1, l2, l3⟩ := HL.out
      go_wp2
      go_loopw [11] (fun t wr => ∃ i : Nat, i ≤ 2 ∧ t = .int .i64 (i : Int) ∧ Hid (LI a n c ba m bc w wr ∧ Spans wr.heap.size wr (some ⟨ob, 0, none⟩) n bb)) (fun t _ => 2 - (intOf t).toNat)
      case atStart => exact ⟨0, Nat.zero_le _, rfl, Lib.hid ⟨HL.out, HO.out⟩⟩
      case round =>
        clear HL HO l0 l1 l2 l3
        obtain ⟨i, hi2, rfl, HR⟩ := hrel
        have HL := Lib.hid HR.out.1
        have HO := Lib.hid HR.out.2
        clear HR
        obtain ⟨l0, l1, l2, l3⟩ := HL.out
        by_cases hi : i < 2
        · have hi' : (i : Int) < 2 := by omega
          obtain ⟨b1, b2, b3, b4, b5, b6⟩ := HO.out.get hci
          injection b3 with b3
          injection b3 with b7 b8
          subst b7 b8
          rw [Nat.zero_add] at b5 b6
          by_cases e0 : i = 0
          · subst e0
            have HWI := Lib.hid (fun (W : World) (hb : Below w.heap.size w W) (d : Int) (hd : d = (bb ci).lo) => HWI0.out W hb d (.inl hd))
            have HD := Lib.hid (show (bb ci).lo = (bb ci).lo from rfl)
            generalize (bb ci).lo = dd at *
            go_wp2_with (first | (go_at_call 21; refine (HWI.out _ l3 _ HD.out).mono ?_; rintro e wd ⟨⟨xa, xc, F, rfl, hG, hF⟩, hbd⟩; have HOx := Lib.hid ((HO.out.below hbd).up (hbd).size); clear HO; have HO := HOx; clear HOx; have HG := Lib.hid hG; have HFE := Lib.hid hF; obtain ⟨gb, go, hga, hgB, g0⟩ := hG.1.get hci; subst hga; rw [hF] at g0; clear hG hF; have HLx := Lib.hid (LI_step HL.out hbd); clear HL hbd; have HL := HLx; clear HLx; (try clear l0 l1 l2 l3); obtain ⟨l0, l1, l2, l3⟩ := HL.out) | (go_at_call 18; refine (HF2.out _ l3 _ _ _ HG.out).mono ?_; rintro e wa ⟨rfl, hba⟩; have HOx := Lib.hid ((HO.out.below hba).up (hba).size); clear HO; have HO := HOx; clear HOx; have HGx := Lib.hid (HG.out.step hba); clear HG; have HG := HGx; clear HGx; have g1 := ((bcell hba).1 gb _ hgB).trans g0; have hgC := Nat.lt_of_lt_of_le hgB hba.size; clear g0 hgB; have g0 := g1; have hgB := hgC; clear g1 hgC; have HLx := Lib.hid (LI_step HL.out hba); clear HL hba; have HL := HLx; clear HLx; (try clear l0 l1 l2 l3); obtain ⟨l0, l1, l2, l3⟩ := HL.out) | (go_at_call 19; refine (HA2.out _ l3 _ _ _ HG.out).mono ?_; rintro e wb ⟨rfl, hbb⟩; have HOx := Lib.hid ((HO.out.below hbb).up (hbb).size); clear HO; have HO := HOx; clear HOx; have HGx := Lib.hid (HG.out.step hbb); clear HG; have HG := HGx; clear HGx; have g1 := ((bcell hbb).1 gb _ hgB).trans g0; have hgC := Nat.lt_of_lt_of_le hgB hbb.size; clear g0 hgB; have g0 := g1; have hgB := hgC; clear g1 hgC; have HLx := Lib.hid (LI_step HL.out hbb); clear HL hbb; have HL := HLx; clear HLx; (try clear l0 l1 l2 l3); obtain ⟨l0, l1, l2, l3⟩ := HL.out))
            go_roundw
            case rel => exact ⟨1, by omega, by go_num, Lib.hid ⟨HL.out, HO.out⟩⟩
            case measure => simp [intOf]
          · obtain rfl : i = 1 := by omega
            have HWI := Lib.hid (fun (W : World) (hb : Below w.heap.size w W) (d : Int) (hd : d = (bb ci).hi) => HWI0.out W hb d (.inr hd))
            have HD := Lib.hid (show (bb ci).hi = (bb ci).hi from rfl)
            clear e0
            generalize (bb ci).hi = dd at *
            go_wp2_with (first | (go_at_call 21; refine (HWI.out _ l3 _ HD.out).mono ?_; rintro e wd ⟨⟨xa, xc, F, rfl, hG, hF⟩, hbd⟩; have HOx := Lib.hid ((HO.out.below hbd).up (hbd).size); clear HO; have HO := HOx; clear HOx; have HG := Lib.hid hG; have HFE := Lib.hid hF; obtain ⟨gb, go, hga, hgB, g0⟩ := hG.1.get hci; subst hga; rw [hF] at g0; clear hG hF; have HLx := Lib.hid (LI_step HL.out hbd); clear HL hbd; have HL := HLx; clear HLx; (try clear l0 l1 l2 l3); obtain ⟨l0, l1, l2, l3⟩ := HL.out) | (go_at_call 18; refine (HF2.out _ l3 _ _ _ HG.out).mono ?_; rintro e wa ⟨rfl, hba⟩; have HOx := Lib.hid ((HO.out.below hba).up (hba).size); clear HO; have HO := HOx; clear HOx; have HGx := Lib.hid (HG.out.step hba); clear HG; have HG := HGx; clear HGx; have g1 := ((bcell hba).1 gb _ hgB).trans g0; have hgC := Nat.lt_of_lt_of_le hgB hba.size; clear g0 hgB; have g0 := g1; have hgB := hgC; clear g1 hgC; have HLx := Lib.hid (LI_step HL.out hba); clear HL hba; have HL := HLx; clear HLx; (try clear l0 l1 l2 l3); obtain ⟨l0, l1, l2, l3⟩ := HL.out) | (go_at_call 19; refine (HA2.out _ l3 _ _ _ HG.out).mono ?_; rintro e wb ⟨rfl, hbb⟩; have HOx := Lib.hid ((HO.out.below hbb).up (hbb).size); clear HO; have HO := HOx; clear HOx; have HGx := Lib.hid (HG.out.step hbb); clear HG; have HG := HGx; clear HGx; have g1 := ((bcell hbb).1 gb _ hgB).trans g0; have hgC := Nat.lt_of_lt_of_le hgB hbb.size; clear g0 hgB; have g0 := g1; have hgB := hgC; clear g1 hgC; have HLx := Lib.hid (LI_step HL.out hbb); clear HL hbb; have HL := HLx; clear HLx; (try clear l0 l1 l2 l3); obtain ⟨l0, l1, l2, l3⟩ := HL.out))
            go_roundw
            case rel => exact ⟨2, by omega, by go_num, Lib.hid ⟨HL.out, HO.out⟩⟩
            case measure => simp [intOf]
        · obtain rfl : i = 2 := by omega
          go_wp2
          go_roundw
          case rel => exact ⟨ci + 1, by omega, by go_num, Lib.hid ⟨HL.out, HO.out⟩⟩
          case measure => simp [intOf]; omega
    · obtain rfl : ci = n := by omega
      have hci' : ¬ (ci : Int) < (ci : Int) := by omega
      go_wp2_with (go_at_call 13; refine (HKN.out _ l3).mono ?_; rintro e w5 ⟨rfl, hb5⟩; have HLx := Lib.hid (LI_step HL.out hb5); clear HL hb5; have HL := HLx; clear HLx; (try clear l0 l1 l2 l3); obtain ⟨l0, l1, l2, l3⟩ := HL.out)
      go_ret
      exact ⟨rfl, l3⟩
theorem ImageTrue_any (a : Option Addr) (n c : Nat) (ba : Option Addr) (m bc : Nat) (ss : Nat → SV) (bs : Nat → BM) (fa : Option Addr) (k fc : Nat) (f : Nat → Int) (w : World) (B : Nat) (hBw : B ≤ w.heap.size) (hS : Spans B w a n ss) (hM : Beams B w ba m bs) (hF : Ints w.heap.size w fa k f) (hk : k ≤ maxLen) (ht : Lib.TabIs Tryd.prog w "internal/strconv.uint64pow10" .u64 Lib.pow10Tab) :
    Calls Tryd.prog 4 #[imageV a n c ba m bc, .slice fa k fc] w fun e w' => e = .returned (.bool true) ∧ Below w.heap.size w w' := by
  have h : TrIn a n c ba m bc ss bs fa k f w := ⟨⟨Nat.le_refl _, hS.up hBw, hM.up hBw, Lib.tabBelow_of_tabIs ht⟩, hF, hk⟩
  by_cases hy : TrYes n ss m bs k
  · cases hA : allF n ss m bs with
    | nil => exact True_none a n c ba m bc ss bs fa k fc f w h hy hA
    | cons g t =>
      cases hf : fieldB n ss k f
      · exact True_f a n c ba m bc ss bs fa k fc f w h hy g t hA hf
      · cases hg : agreesB m bs f
        · exact True_tf a n c ba m bc ss bs fa k fc f w h hy g t hA hf hg
        · exact True_tt a n c ba m bc ss bs fa k fc f w h hy g t hA hf hg
  · exact True_no a n c ba m bc ss bs fa k fc f w h hy
end Go.Proofs.YtollfpnfnciekaaDoor
