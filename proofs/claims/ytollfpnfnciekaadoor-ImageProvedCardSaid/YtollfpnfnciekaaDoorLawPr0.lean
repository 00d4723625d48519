/- What the walk of ImageProved needs; where there is nothing to prove. -/
import Derived.Test.YtollfpnfnciekaaDoorLawNa
import Derived.Test.YtollfpnfnciekaaDoorGcA
namespace Go.Proofs.YtollfpnfnciekaaDoor
open Go.RowKit
set_option linter.unusedVariables false
set_option linter.unusedSimpArgs false
/-- the bounds of all cells -/
def pbF (n : Nat) (ss : Nat → SV) (m : Nat) (bs : Nat → BM) (i : Nat) : SV := bnd (fun f => fOf f i) (allF n ss m bs)
/-- what the calls need of the image and the proof -/
structure PrIn (a : Option Addr) (n c : Nat) (ba : Option Addr) (m bc : Nat) (ss : Nat → SV) (bs : Nat → BM) (na : Option Addr) (len : Nat) (ns : Nat → NM) (w : World) : Prop where
  im : ImIn w.heap.size a n c ba m bc ss bs w
  nodes : Nodes w.heap.size w na len ns
  ln : len ≤ maxLen
theorem pb_in {n m : Nat} {ss : Nat → SV} {bs : Nat → BM} (hA : allF n ss m bs ≠ []) {i : Nat} (hi : i < n) : (ss i).lo ≤ (pbF n ss m bs i).lo ∧ (pbF n ss m bs i).lo ≤ (pbF n ss m bs i).hi ∧ (pbF n ss m bs i).hi ≤ (ss i).hi := by
  have hB := bnd_is (fun f => fOf f i) hA
  unfold pbF
  obtain ⟨f, hf, e⟩ := hB.lo
  obtain ⟨g, hg, e2⟩ := hB.hi
  have h1 := (allF_mem.1 hf).2.2 i hi
  have h2 := (allF_mem.1 hg).2.2 i hi
  have h3 := hB.all f hf
  omega
theorem pb_none {n m : Nat} {ss : Nat → SV} {bs : Nat → BM} (hA : allF n ss m bs ≠ []) {i : Nat} (hi : i < n) {s : SV} (hs : (ss i).lo ≤ s.lo ∧ s.hi ≤ (ss i).hi) (h : (pbF n ss m bs i).hi < s.lo ∨ s.hi < (pbF n ss m bs i).lo) : allF n (setBox ss i s) m bs = [] := by
  rw [all_narrow hi hs, List.filter_eq_nil_iff]
  intro g hg h2
  have h3 := (bnd_is (fun f => fOf f i) hA).all g hg
  have h4 := inB_iff.1 h2
  unfold pbF at h
  rcases h with h | h <;> omega
theorem pb_some {n m : Nat} {ss : Nat → SV} {bs : Nat → BM} (hA : allF n ss m bs ≠ []) {i : Nat} (hi : i < n) {d : Int} (h : d = (pbF n ss m bs i).lo ∨ d = (pbF n ss m bs i).hi) : allF n (setBox ss i ⟨d, d⟩) m bs ≠ [] := by
  have h0 := pb_in hA hi
  have hB := bnd_is (fun f => fOf f i) hA
  have hex : ∃ f ∈ allF n ss m bs, fOf f i = d := by
    rcases h with rfl | rfl
    · obtain ⟨f, h1, h2⟩ := hB.lo; exact ⟨f, h1, h2⟩
    · obtain ⟨f, h1, h2⟩ := hB.hi; exact ⟨f, h1, h2⟩
  obtain ⟨f, hf, e⟩ := hex
  have hd := (allF_mem.1 hf).2.2 i hi
  intro he
  have hm : f ∈ allF n (setBox ss i ⟨d, d⟩) m bs := by
    rw [all_narrow hi (s := ⟨d, d⟩) ⟨by show (ss i).lo ≤ d; omega, by show d ≤ (ss i).hi; omega⟩, List.mem_filter]
    exact ⟨hf, inB_iff.2 ⟨by show d ≤ fOf f i; omega, by show fOf f i ≤ d; omega⟩⟩
  rw [he] at hm
  cases hm
/-- the guards that are held -/
def PrYes (n : Nat) (ss : Nat → SV) (m : Nat) (bs : Nat → BM) (len : Nat) (ns : Nat → NM) (cell : Int) : Prop := shortB n m bs = true ∧ nodesB len ns 200 = true ∧ checkN n ss m bs = 0 ∧ min (prodN ss n) 200001 ≤ 20000 ∧ 0 ≤ cell ∧ cell < (n : Int)
section
variable {a : Option Addr} {n c : Nat} {ba : Option Addr} {m bc : Nat} {ss : Nat → SV} {bs : Nat → BM} {na : Option Addr} {len nc : Nat} {ns : Nat → NM} {w W : World}
theorem PrIn.short (h : PrIn a n c ba m bc ss bs na len ns w) (hb : Below w.heap.size w W) : Calls Tryd.prog 9 #[imageV a n c ba m bc] W fun e w' => e = .returned (.bool (shortB n m bs)) ∧ Below W.heap.size W w' := short_any a n c ba m bc bs W _ (h.im.B' hb) h.im.spans.1 (h.im.M hb)
theorem PrIn.nodesC (h : PrIn a n c ba m bc ss bs na len ns w) (hb : Below w.heap.size w W) : Calls Tryd.prog 27 #[.slice na len nc, .int .i64 200] W fun e w' => e = .returned (.bool (nodesB len ns 200)) ∧ Below W.heap.size W w' := nodes_any na len nc ns 200 W _ (h.im.B' hb) (h.nodes.below hb) h.ln
theorem PrIn.check (h : PrIn a n c ba m bc ss bs na len ns w) (hb : Below w.heap.size w W) : Calls Tryd.prog 10 #[imageV a n c ba m bc] W fun e w' => e = .returned (.int .i64 (checkN n ss m bs)) ∧ Below W.heap.size W w' := r8Check_any a n c ba m bc ss bs W _ (h.im.B' hb) (h.im.S hb) (h.im.M hb)
theorem PrIn.fields (h : PrIn a n c ba m bc ss bs na len ns w) (hC : checkN n ss m bs = 0) (hb : Below w.heap.size w W) : Calls Tryd.prog 11 #[imageV a n c ba m bc] W fun e w' => e = .returned (.int .i64 (min (prodN ss n) 200001)) ∧ Below W.heap.size W w' := r8Fields_any a n c ba m bc ss W _ (h.im.B' hb) (h.im.S hb) (checkN_shape hC).span
theorem PrIn.bounds0 (h : PrIn a n c ba m bc ss bs na len ns w) (hC : checkN n ss m bs = 0) (hA : allF n ss m bs = []) (hb : Below w.heap.size w W) : Calls Tryd.prog 14 #[imageV a n c ba m bc] W fun e w' => e = .returned (.tuple #[.slice none 0 0, .int .i64 5]) ∧ Below W.heap.size W w' :=
  (Bounds_any a n c ba m bc ss bs W _ (h.im.B' hb) (h.im.S hb) (h.im.M hb)).mono fun e w' h => by
    have h2 := h.2
    rw [if_pos hC, if_pos hA] at h2
    exact ⟨h2, h.1⟩
theorem PrIn.bounds1 (h : PrIn a n c ba m bc ss bs na len ns w) (hC : checkN n ss m bs = 0) (hA : allF n ss m bs ≠ []) (hb : Below w.heap.size w W) : Calls Tryd.prog 14 #[imageV a n c ba m bc] W fun e w' => (∃ ob, e = .returned (.tuple #[.slice (some ⟨ob, 0, none⟩) n n, .int .i64 0]) ∧ Spans w'.heap.size w' (some ⟨ob, 0, none⟩) n (pbF n ss m bs)) ∧ Below W.heap.size W w' :=
  (Bounds_any a n c ba m bc ss bs W _ (h.im.B' hb) (h.im.S hb) (h.im.M hb)).mono fun e w' h' => by
    have h2 := h'.2
    rw [if_pos hC, if_neg hA] at h2
    obtain ⟨ob, he, _, hs⟩ := h2
    exact ⟨⟨ob, he, h.im.spans.1, .inr ⟨ob, 0, rfl, hs.lt, fun i hi => by rw [Nat.zero_add]; exact hs.cell hi⟩⟩, h'.1⟩
theorem PrIn.nar (h : PrIn a n c ba m bc ss bs na len ns w) (hn : n ≤ 40) {ci : Nat} (hci : ci < n) (lo hi : Int) (hb : Below w.heap.size w W) : Calls Tryd.prog 29 #[imageV a n c ba m bc, .int .i64 (ci : Int), .agg #[.int .i64 lo, .int .i64 hi]] W fun e w' => (∃ g gc, e = .returned (imageV (some ⟨g, 0, none⟩) n gc ba m bc) ∧ Spans w'.heap.size w' (some ⟨g, 0, none⟩) n (setBox ss ci ⟨lo, hi⟩) ∧ (n ≤ gc ∧ gc ≤ maxLen) ∧ W.heap.size ≤ g ∧ g < w'.heap.size) ∧ Below W.heap.size W w' :=
  narrowed_any a n c ba m bc ss ci lo hi W hci hn ((h.im.S hb).up (h.im.B' hb))
theorem PrIn.refd (h : PrIn a n c ba m bc ss bs na len ns w) {st : Nat → SV} (hC : checkN n st m bs = 0) (hA : allF n st m bs = []) (hb : Below w.heap.size w W) {ga : Option Addr} {gc : Nat} (hS : Spans W.heap.size W ga n st) (hcap : n ≤ gc ∧ gc ≤ maxLen) : Calls Tryd.prog 28 #[imageV ga n gc ba m bc] W fun e w' => e = .returned (.bool true) ∧ Below W.heap.size W w' :=
  refuted_any ga n gc ba m bc st bs hcap W hS ((h.im.M hb).up (h.im.B' hb)) hC hA
theorem PrIn.refu (h : PrIn a n c ba m bc ss bs na len ns w) {st : Nat → SV} (hC : checkN n st m bs = 0) (hA : allF n st m bs ≠ []) (hb : Below w.heap.size w W) {ga : Option Addr} {gc : Nat} (hS : Spans W.heap.size W ga n st) (hcap : n ≤ gc ∧ gc ≤ maxLen) : Calls Tryd.prog 30 #[imageV ga n gc ba m bc] W fun e w' => e = .returned (.tuple #[.slice none 0 0, .int .i64 6]) ∧ Below W.heap.size W w' :=
  na_refute6 hcap hS ((h.im.M hb).up (h.im.B' hb)) hC hA
theorem PrIn.hold (h : PrIn a n c ba m bc ss bs na len ns w) {st : Nat → SV} (hA : allF n st m bs ≠ []) (hb : Below w.heap.size w W) {ga : Option Addr} {gc : Nat} (hS : Spans W.heap.size W ga n st) (hcap : n ≤ gc ∧ gc ≤ maxLen) : Calls Tryd.prog 31 #[imageV ga n gc ba m bc, .slice na len nc] W fun e w' => e = .returned (.bool false) ∧ Below W.heap.size W w' := by
  have := Holds_any ga n gc ba m bc st bs na len nc ns hcap h.ln W W.heap.size (Nat.le_refl _) hS ((h.im.M hb).up (h.im.B' hb)) ((h.nodes.below hb).up hb.size)
  rwa [holds_some hA] at this
end
set_option maxRecDepth 100000 in
set_option maxHeartbeats 4000000 in
theorem Proved_no (a : Option Addr) (n c : Nat) (ba : Option Addr) (m bc : Nat) (ss : Nat → SV) (bs : Nat → BM) (cell : Int) (na : Option Addr) (len nc : Nat) (ns : Nat → NM) (w : World) (h : PrIn a n c ba m bc ss bs na len ns w) (hno : ¬ PrYes n ss m bs len ns cell) :
    Calls Tryd.prog 6 #[imageV a n c ba m bc, .int .i64 cell, .slice na len nc] w fun e w' => e = .returned (.bool true) ∧ Below w.heap.size w w' := by
  have HKN := Lib.hid (fun (W : World) (hb : Below w.heap.size w W) => h.im.known hb)
  have HST := Lib.hid (fun (W : World) (hb : Below w.heap.size w W) => h.short hb)
  have HNO := Lib.hid (fun (W : World) (hb : Below w.heap.size w W) => h.nodesC (nc := nc) hb)
  have HCH := Lib.hid (fun (W : World) (hb : Below w.heap.size w W) => h.check hb)
  have hn := h.im.spans.1
  unfold maxLen at hn
  have HNN := Lib.hid hno
  clear hno
  cases h1 : shortB n m bs
  · rw [h1] at HST
    clear HNN
    go_enter Tryd.func6, Tryd.ntmps6; go_upto_region 1 with (fail); have HL := Lib.hid (show LI a n c ba m bc w (w.alloc (.cells #[.slice a n c, .slice ba m bc] 25)) from LI_start); generalize World.alloc w _ = V at *; obtain ⟨l0, l1, l2, l3⟩ := HL.out
    go_wp2_with (first | (go_at_call 9; refine (HST.out _ l3).mono ?_; rintro e w2 ⟨rfl, hb2⟩; have HLx := Lib.hid (LI_step HL.out hb2); clear HL hb2; have HL := HLx; clear HLx; (try clear l0 l1 l2 l3); obtain ⟨l0, l1, l2, l3⟩ := HL.out) | (go_at_call 13; refine (HKN.out _ l3).mono ?_; rintro e w6 ⟨rfl, hb6⟩; have HLx := Lib.hid (LI_step HL.out hb6); clear HL hb6; have HL := HLx; clear HLx; (try clear l0 l1 l2 l3); obtain ⟨l0, l1, l2, l3⟩ := HL.out))
    go_ret
    exact ⟨rfl, l3⟩
  rw [h1] at HST
  cases h2 : nodesB len ns 200
  · rw [h2] at HNO
    clear HNN
    go_enter Tryd.func6, Tryd.ntmps6; go_upto_region 1 with (fail); have HL := Lib.hid (show LI a n c ba m bc w (w.alloc (.cells #[.slice a n c, .slice ba m bc] 25)) from LI_start); generalize World.alloc w _ = V at *; obtain ⟨l0, l1, l2, l3⟩ := HL.out
    go_wp2_with (first | (go_at_call 9; refine (HST.out _ l3).mono ?_; rintro e w2 ⟨rfl, hb2⟩; have HLx := Lib.hid (LI_step HL.out hb2); clear HL hb2; have HL := HLx; clear HLx; (try clear l0 l1 l2 l3); obtain ⟨l0, l1, l2, l3⟩ := HL.out) | (go_at_call 27; refine (HNO.out _ l3).mono ?_; rintro e w3 ⟨rfl, hb3⟩; have HLx := Lib.hid (LI_step HL.out hb3); clear HL hb3; have HL := HLx; clear HLx; (try clear l0 l1 l2 l3); obtain ⟨l0, l1, l2, l3⟩ := HL.out) | (go_at_call 13; refine (HKN.out _ l3).mono ?_; rintro e w6 ⟨rfl, hb6⟩; have HLx := Lib.hid (LI_step HL.out hb6); clear HL hb6; have HL := HLx; clear HLx; (try clear l0 l1 l2 l3); obtain ⟨l0, l1, l2, l3⟩ := HL.out))
    go_ret
    exact ⟨rfl, l3⟩
  rw [h2] at HNO
  by_cases hC : checkN n ss m bs = 0
  · have HFS := Lib.hid (fun (W : World) (hb : Below w.heap.size w W) => h.fields hC hb)
    rw [hC] at HCH
    by_cases h3 : min (prodN ss n) 200001 ≤ 20000
    · by_cases h4 : 0 ≤ cell
      · have h5 : (n : Int) ≤ cell := by
          false_or_by_contra
          exact HNN.out ⟨h1, h2, hC, h3, h4, by omega⟩
        generalize min (prodN ss n) 200001 = P at *
        have h3' : ¬ 20000 < P := by omega
        have h4' : ¬ cell < 0 := by omega
        clear HNN hC h3 h4
        go_enter Tryd.func6, Tryd.ntmps6; go_upto_region 1 with (fail); have HL := Lib.hid (show LI a n c ba m bc w (w.alloc (.cells #[.slice a n c, .slice ba m bc] 25)) from LI_start); generalize World.alloc w _ = V at *; obtain ⟨l0, l1, l2, l3⟩ := HL.out
        go_wp2_with (first | (go_at_call 9; refine (HST.out _ l3).mono ?_; rintro e w2 ⟨rfl, hb2⟩; have HLx := Lib.hid (LI_step HL.out hb2); clear HL hb2; have HL := HLx; clear HLx; (try clear l0 l1 l2 l3); obtain ⟨l0, l1, l2, l3⟩ := HL.out) | (go_at_call 27; refine (HNO.out _ l3).mono ?_; rintro e w3 ⟨rfl, hb3⟩; have HLx := Lib.hid (LI_step HL.out hb3); clear HL hb3; have HL := HLx; clear HLx; (try clear l0 l1 l2 l3); obtain ⟨l0, l1, l2, l3⟩ := HL.out) | (go_at_call 10; refine (HCH.out _ l3).mono ?_; rintro e w4 ⟨rfl, hb4⟩; have HLx := Lib.hid (LI_step HL.out hb4); clear HL hb4; have HL := HLx; clear HLx; (try clear l0 l1 l2 l3); obtain ⟨l0, l1, l2, l3⟩ := HL.out) | (go_at_call 11; refine (HFS.out _ l3).mono ?_; rintro e w5 ⟨rfl, hb5⟩; have HLx := Lib.hid (LI_step HL.out hb5); clear HL hb5; have HL := HLx; clear HLx; (try clear l0 l1 l2 l3); obtain ⟨l0, l1, l2, l3⟩ := HL.out) | (go_at_call 13; refine (HKN.out _ l3).mono ?_; rintro e w6 ⟨rfl, hb6⟩; have HLx := Lib.hid (LI_step HL.out hb6); clear HL hb6; have HL := HLx; clear HLx; (try clear l0 l1 l2 l3); obtain ⟨l0, l1, l2, l3⟩ := HL.out))
        go_ret
        exact ⟨rfl, l3⟩
      · generalize min (prodN ss n) 200001 = P at *
        have h3' : ¬ 20000 < P := by omega
        have h4' : cell < 0 := by omega
        clear HNN hC h3 h4
        go_enter Tryd.func6, Tryd.ntmps6; go_upto_region 1 with (fail); have HL := Lib.hid (show LI a n c ba m bc w (w.alloc (.cells #[.slice a n c, .slice ba m bc] 25)) from LI_start); generalize World.alloc w _ = V at *; obtain ⟨l0, l1, l2, l3⟩ := HL.out
        go_wp2_with (first | (go_at_call 9; refine (HST.out _ l3).mono ?_; rintro e w2 ⟨rfl, hb2⟩; have HLx := Lib.hid (LI_step HL.out hb2); clear HL hb2; have HL := HLx; clear HLx; (try clear l0 l1 l2 l3); obtain ⟨l0, l1, l2, l3⟩ := HL.out) | (go_at_call 27; refine (HNO.out _ l3).mono ?_; rintro e w3 ⟨rfl, hb3⟩; have HLx := Lib.hid (LI_step HL.out hb3); clear HL hb3; have HL := HLx; clear HLx; (try clear l0 l1 l2 l3); obtain ⟨l0, l1, l2, l3⟩ := HL.out) | (go_at_call 10; refine (HCH.out _ l3).mono ?_; rintro e w4 ⟨rfl, hb4⟩; have HLx := Lib.hid (LI_step HL.out hb4); clear HL hb4; have HL := HLx; clear HLx; (try clear l0 l1 l2 l3); obtain ⟨l0, l1, l2, l3⟩ := HL.out) | (go_at_call 11; refine (HFS.out _ l3).mono ?_; rintro e w5 ⟨rfl, hb5⟩; have HLx := Lib.hid (LI_step HL.out hb5); clear HL hb5; have HL := HLx; clear HLx; (try clear l0 l1 l2 l3); obtain ⟨l0, l1, l2, l3⟩ := HL.out) | (go_at_call 13; refine (HKN.out _ l3).mono ?_; rintro e w6 ⟨rfl, hb6⟩; have HLx := Lib.hid (LI_step HL.out hb6); clear HL hb6; have HL := HLx; clear HLx; (try clear l0 l1 l2 l3); obtain ⟨l0, l1, l2, l3⟩ := HL.out))
        go_ret
        exact ⟨rfl, l3⟩
    · generalize min (prodN ss n) 200001 = P at *
      have h3' : 20000 < P := by omega
      clear HNN hC h3
      go_enter Tryd.func6, Tryd.ntmps6; go_upto_region 1 with (fail); have HL := Lib.hid (show LI a n c ba m bc w (w.alloc (.cells #[.slice a n c, .slice ba m bc] 25)) from LI_start); generalize World.alloc w _ = V at *; obtain ⟨l0, l1, l2, l3⟩ := HL.out
      go_wp2_with (first | (go_at_call 9; refine (HST.out _ l3).mono ?_; rintro e w2 ⟨rfl, hb2⟩; have HLx := Lib.hid (LI_step HL.out hb2); clear HL hb2; have HL := HLx; clear HLx; (try clear l0 l1 l2 l3); obtain ⟨l0, l1, l2, l3⟩ := HL.out) | (go_at_call 27; refine (HNO.out _ l3).mono ?_; rintro e w3 ⟨rfl, hb3⟩; have HLx := Lib.hid (LI_step HL.out hb3); clear HL hb3; have HL := HLx; clear HLx; (try clear l0 l1 l2 l3); obtain ⟨l0, l1, l2, l3⟩ := HL.out) | (go_at_call 10; refine (HCH.out _ l3).mono ?_; rintro e w4 ⟨rfl, hb4⟩; have HLx := Lib.hid (LI_step HL.out hb4); clear HL hb4; have HL := HLx; clear HLx; (try clear l0 l1 l2 l3); obtain ⟨l0, l1, l2, l3⟩ := HL.out) | (go_at_call 11; refine (HFS.out _ l3).mono ?_; rintro e w5 ⟨rfl, hb5⟩; have HLx := Lib.hid (LI_step HL.out hb5); clear HL hb5; have HL := HLx; clear HLx; (try clear l0 l1 l2 l3); obtain ⟨l0, l1, l2, l3⟩ := HL.out) | (go_at_call 13; refine (HKN.out _ l3).mono ?_; rintro e w6 ⟨rfl, hb6⟩; have HLx := Lib.hid (LI_step HL.out hb6); clear HL hb6; have HL := HLx; clear HLx; (try clear l0 l1 l2 l3); obtain ⟨l0, l1, l2, l3⟩ := HL.out))
      go_ret
      exact ⟨rfl, l3⟩
  · have hne : (checkN n ss m bs == 0) = false := by rw [beq_eq_false_iff_ne]; exact hC
    clear HNN hC
    generalize checkN n ss m bs = E at *
    have hne2 : (E != 0) = true := by rw [bne, hne]; rfl
    go_enter Tryd.func6, Tryd.ntmps6; go_upto_region 1 with (fail); have HL := Lib.hid (show LI a n c ba m bc w (w.alloc (.cells #[.slice a n c, .slice ba m bc] 25)) from LI_start); generalize World.alloc w _ = V at *; obtain ⟨l0, l1, l2, l3⟩ := HL.out
    go_wp2_with (first | (go_at_call 9; refine (HST.out _ l3).mono ?_; rintro e w2 ⟨rfl, hb2⟩; have HLx := Lib.hid (LI_step HL.out hb2); clear HL hb2; have HL := HLx; clear HLx; (try clear l0 l1 l2 l3); obtain ⟨l0, l1, l2, l3⟩ := HL.out) | (go_at_call 27; refine (HNO.out _ l3).mono ?_; rintro e w3 ⟨rfl, hb3⟩; have HLx := Lib.hid (LI_step HL.out hb3); clear HL hb3; have HL := HLx; clear HLx; (try clear l0 l1 l2 l3); obtain ⟨l0, l1, l2, l3⟩ := HL.out) | (go_at_call 10; refine (HCH.out _ l3).mono ?_; rintro e w4 ⟨rfl, hb4⟩; have HLx := Lib.hid (LI_step HL.out hb4); clear HL hb4; have HL := HLx; clear HLx; (try clear l0 l1 l2 l3); obtain ⟨l0, l1, l2, l3⟩ := HL.out) | (go_at_call 13; refine (HKN.out _ l3).mono ?_; rintro e w6 ⟨rfl, hb6⟩; have HLx := Lib.hid (LI_step HL.out hb6); clear HL hb6; have HL := HLx; clear HLx; (try clear l0 l1 l2 l3); obtain ⟨l0, l1, l2, l3⟩ := HL.out))
    go_ret
    exact ⟨rfl, l3⟩
set_option maxRecDepth 100000 in
set_option maxHeartbeats 4000000 in
theorem Proved_none (a : Option Addr) (n c : Nat) (ba : Option Addr) (m bc : Nat) (ss : Nat → SV) (bs : Nat → BM) (cell : Int) (na : Option Addr) (len nc : Nat) (ns : Nat → NM) (w : World) (h : PrIn a n c ba m bc ss bs na len ns w) (hyes : PrYes n ss m bs len ns cell) (hA : allF n ss m bs = []) :
    Calls Tryd.prog 6 #[imageV a n c ba m bc, .int .i64 cell, .slice na len nc] w fun e w' => e = .returned (.bool true) ∧ Below w.heap.size w w' := by
  have hC := hyes.2.2.1; have HKN := Lib.hid (fun (W : World) (hb : Below w.heap.size w W) => h.im.known hb); have HST := Lib.hid (fun (W : World) (hb : Below w.heap.size w W) => h.short hb); have HNO := Lib.hid (fun (W : World) (hb : Below w.heap.size w W) => h.nodesC (nc := nc) hb); have HCH := Lib.hid (fun (W : World) (hb : Below w.heap.size w W) => h.check hb); have HFS := Lib.hid (fun (W : World) (hb : Below w.heap.size w W) => h.fields hC hb); have hn := h.im.spans.1; unfold maxLen at hn; obtain ⟨g1, g2, g3, g4, g5, g6⟩ := hyes; rw [g1] at HST; rw [g2] at HNO; rw [g3] at HCH; generalize min (prodN ss n) 200001 = P at *; have g4' : ¬ 20000 < P := (by omega); have g5' : ¬ cell < 0 := (by omega); have g6' : ¬ (n : Int) ≤ cell := (by omega); clear g1 g2 g3 g4
  have HBO := Lib.hid (fun (W : World) (hb : Below w.heap.size w W) => h.bounds0 hC hA hb)
  clear h hC hA
  go_enter Tryd.func6, Tryd.ntmps6; go_upto_region 1 with (fail); have HL := Lib.hid (show LI a n c ba m bc w (w.alloc (.cells #[.slice a n c, .slice ba m bc] 25)) from LI_start); generalize World.alloc w _ = V at *; obtain ⟨l0, l1, l2, l3⟩ := HL.out
  go_wp2_with (first | (go_at_call 9; refine (HST.out _ l3).mono ?_; rintro e w2 ⟨rfl, hb2⟩; have HLx := Lib.hid (LI_step HL.out hb2); clear HL hb2; have HL := HLx; clear HLx; (try clear l0 l1 l2 l3); obtain ⟨l0, l1, l2, l3⟩ := HL.out) | (go_at_call 27; refine (HNO.out _ l3).mono ?_; rintro e w3 ⟨rfl, hb3⟩; have HLx := Lib.hid (LI_step HL.out hb3); clear HL hb3; have HL := HLx; clear HLx; (try clear l0 l1 l2 l3); obtain ⟨l0, l1, l2, l3⟩ := HL.out) | (go_at_call 10; refine (HCH.out _ l3).mono ?_; rintro e w4 ⟨rfl, hb4⟩; have HLx := Lib.hid (LI_step HL.out hb4); clear HL hb4; have HL := HLx; clear HLx; (try clear l0 l1 l2 l3); obtain ⟨l0, l1, l2, l3⟩ := HL.out) | (go_at_call 11; refine (HFS.out _ l3).mono ?_; rintro e w5 ⟨rfl, hb5⟩; have HLx := Lib.hid (LI_step HL.out hb5); clear HL hb5; have HL := HLx; clear HLx; (try clear l0 l1 l2 l3); obtain ⟨l0, l1, l2, l3⟩ := HL.out) | (go_at_call 13; refine (HKN.out _ l3).mono ?_; rintro e w6 ⟨rfl, hb6⟩; have HLx := Lib.hid (LI_step HL.out hb6); clear HL hb6; have HL := HLx; clear HLx; (try clear l0 l1 l2 l3); obtain ⟨l0, l1, l2, l3⟩ := HL.out) | (go_at_call 14; refine (HBO.out _ l3).mono ?_; rintro e w7 ⟨rfl, hb7⟩; have HLx := Lib.hid (LI_step HL.out hb7); clear HL hb7; have HL := HLx; clear HLx; (try clear l0 l1 l2 l3); obtain ⟨l0, l1, l2, l3⟩ := HL.out))
  go_ret
  exact ⟨rfl, l3⟩
end Go.Proofs.YtollfpnfnciekaaDoor
