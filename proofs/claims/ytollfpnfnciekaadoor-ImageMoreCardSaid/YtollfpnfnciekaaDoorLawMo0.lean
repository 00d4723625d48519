/- What the walk of ImageMore needs; where it does not apply. -/
import Derived.Test.YtollfpnfnciekaaDoorGrA
import Derived.Test.YtollfpnfnciekaaDoorGqA
import Derived.Test.YtollfpnfnciekaaDoorMoreLaw
import Derived.Test.YtollfpnfnciekaaDoorGhA
import Derived.Test.YtollfpnfnciekaaDoorGcA
namespace Go.Proofs.YtollfpnfnciekaaDoor
open Go.RowKit
set_option linter.unusedVariables false
set_option linter.unusedSimpArgs false
/-- the image and the beam in boxes -/
structure MB (a : Option Addr) (n c : Nat) (ba : Option Addr) (m bc : Nat) (p : BM) (w W : World) : Prop where
  li : LI a n c ba m bc w W
  beam : W.heap[w.heap.size + 1]? = some (.cells #[.slice p.ca p.cn p.cc, .slice p.wa p.wn p.wc, .int .i64 p.lo, .int .i64 p.hi] 28)
theorem MB.step {a : Option Addr} {n c : Nat} {ba : Option Addr} {m bc : Nat} {p : BM} {w W W' : World} (h : MB a n c ba m bc p w W) (hb : Below W.heap.size W W') : MB a n c ba m bc p w W' :=
  ⟨LI_step h.li hb, (hb.block _ (Array.getElem?_eq_some_iff.1 h.beam).1).trans h.beam⟩
theorem MB.start {a : Option Addr} {n c : Nat} {ba : Option Addr} {m bc : Nat} {p : BM} {w : World} : MB a n c ba m bc p w ((w.alloc (.cells #[.slice a n c, .slice ba m bc] 25)).alloc (.cells #[.slice p.ca p.cn p.cc, .slice p.wa p.wn p.wc, .int .i64 p.lo, .int .i64 p.hi] 28)) := by
  have z1 : (w.alloc (.cells #[.slice a n c, .slice ba m bc] 25)).heap.size = w.heap.size + 1 := by simp
  refine ⟨LI_step LI_start (alloc_below _ _), ?_⟩
  have := heap_alloc_new (w.alloc (.cells #[.slice a n c, .slice ba m bc] 25)) (.cells #[.slice p.ca p.cn p.cc, .slice p.wa p.wn p.wc, .int .i64 p.lo, .int .i64 p.hi] 28)
  rwa [z1] at this
theorem info_beam : (Tryd.prog.info? 28).map (fun i => (i.zero, i.size, i.bytes)) = some (some (.agg #[.slice none 0 0, .slice none 0 0, .int .i64 0, .int .i64 0]), 4, 64) := by kernel_rfl
def BM.cell (p : BM) (r : Nat) : Value := if r = 0 then .slice p.ca p.cn p.cc else if r = 1 then .slice p.wa p.wn p.wc else if r = 2 then .int .i64 p.lo else .int .i64 p.hi
/-- beams as cells -/
def bC (f : Nat → BM) (n : Nat) : List Value := (List.range (n * 4)).map fun j => (f (j / 4)).cell (j % 4)
theorem bC_len {f : Nat → BM} {n : Nat} : (bC f n).length = n * 4 := by simp [bC]
theorem bC_get {f : Nat → BM} {n j : Nat} (h : j < n * 4) : (bC f n)[j]? = some ((f (j / 4)).cell (j % 4)) := by simp [bC, h]
theorem bC_one {f : Nat → BM} {n : Nat} : ∀ u ∈ bC f n, u.oneCell' = true := by
  intro u hu
  simp only [bC, List.mem_map] at hu
  obtain ⟨i, _, rfl⟩ := hu
  unfold BM.cell
  split
  · rfl
  · split
    · rfl
    · split <;> rfl
theorem bC_snoc {m : Nat} {bs : Nat → BM} {p : BM} : bC bs m ++ [.slice p.ca p.cn p.cc, .slice p.wa p.wn p.wc, .int .i64 p.lo, .int .i64 p.hi] = bC (withB m bs p) (m + 1) := by
  apply List.ext_getElem?
  intro j
  by_cases h : j < m * 4
  · rw [List.getElem?_append_left (by rw [bC_len]; exact h), bC_get h, bC_get (by omega), withB_lt (by omega)]
  · rw [List.getElem?_append_right (by rw [bC_len]; omega), bC_len]
    by_cases h2 : j < (m + 1) * 4
    · rw [bC_get h2, withB_end (by omega)]
      obtain ⟨r, hr, rfl⟩ : ∃ r, r < 4 ∧ j = m * 4 + r := ⟨j - m * 4, by omega, by omega⟩
      rw [show m * 4 + r - m * 4 = r by omega, show (m * 4 + r) % 4 = r by omega]
      match r, hr with
      | 0, _ => rfl
      | 1, _ => rfl
      | 2, _ => rfl
      | 3, _ => rfl
    · rw [List.getElem?_eq_none_iff.2 (by simp; omega), List.getElem?_eq_none_iff.2 (by rw [bC_len]; omega)]
theorem beam_one {ca : Option Addr} {cn cc : Nat} {wa : Option Addr} {wn wc : Nat} {lo hi : Int} : ∀ u ∈ [Value.slice ca cn cc, .slice wa wn wc, .int .i64 lo, .int .i64 hi], u.oneCell' = true := by
  intro u hu
  simp at hu
  rcases hu with rfl | rfl | rfl | rfl <;> rfl
theorem beams_src {B : Nat} {w : World} {ba : Option Addr} {m : Nat} {bs : Nat → BM} (h : Beams B w ba m bs) : m = 0 ∨ ∃ ad, ba = some ad ∧ ∀ j u, (bC bs m)[j]? = some u → w.cell? (ad.add j) = some u := by
  rcases h.2 with h0 | ⟨b, off, rfl, hB, hc⟩
  · exact .inl h0
  · right
    refine ⟨_, rfl, fun j u hu => ?_⟩
    have hj : j < m * 4 := by have := (List.getElem?_eq_some_iff.1 hu).1; rwa [bC_len] at this
    obtain ⟨c0, c1, c2, c3⟩ := (hc (j / 4) (by omega)).1
    rw [bC_get hj] at hu
    rw [addr_add, ← hu]
    have hr : j % 4 = 0 ∨ j % 4 = 1 ∨ j % 4 = 2 ∨ j % 4 = 3 := by omega
    rcases hr with hr | hr | hr | hr
    · rw [hr, show off + j = off + j / 4 * 4 by omega]; exact c0
    · rw [hr, show off + j = off + j / 4 * 4 + 1 by omega]; exact c1
    · rw [hr, show off + j = off + j / 4 * 4 + 2 by omega]; exact c2
    · rw [hr, show off + j = off + j / 4 * 4 + 3 by omega]; exact c3
theorem own_beams {W : World} {base : Nat} {oa : Option Addr} {N c : Nat} {f : Nat → BM} (h : W.ownsRow base 28 4 (.slice oa N c) N (bC f N)) (hN : N ≤ maxLen) (hm : ∀ i, i < N → (f i).mem W.heap.size W) : Beams W.heap.size W oa N f := by
  refine ⟨hN, ?_⟩
  by_cases h0 : N = 0
  · exact .inl h0
  · obtain ⟨g, rfl, _, hg⟩ := own_at h (by omega)
    refine .inr ⟨g, 0, rfl, hg, fun i hi => ⟨?_, hm i hi⟩⟩
    have e : ∀ r, r < 4 → W.cell? ⟨g, 0 + i * 4 + r, none⟩ = some ((f i).cell r) := fun r hr => by
      rw [show 0 + i * 4 + r = i * 4 + r by omega, h.cellAt (i * 4 + r) (by omega), bC_get (by omega), show (i * 4 + r) / 4 = i by omega, show (i * 4 + r) % 4 = r by omega]
    exact ⟨e 0 (by omega), e 1 (by omega), e 2 (by omega), e 3 (by omega)⟩
theorem beams_mem {B : Nat} {w : World} {ba : Option Addr} {m : Nat} {bs : Nat → BM} (h : Beams B w ba m bs) {i : Nat} (hi : i < m) : (bs i).mem B w := by
  rcases h.2 with h0 | ⟨b, off, rfl, hB, hc⟩
  · omega
  · exact (hc i hi).2
/-- what the calls need of the image and the beam -/
structure MoIn (a : Option Addr) (n c : Nat) (ba : Option Addr) (m bc : Nat) (ss : Nat → SV) (bs : Nat → BM) (p : BM) (w : World) : Prop where
  im : ImIn w.heap.size a n c ba m bc ss bs w
  mem : p.mem w.heap.size w
/-- the guards that are held -/
def MoYes (n : Nat) (ss : Nat → SV) (m : Nat) (bs : Nat → BM) (p : BM) : Prop := shortB n m bs = true ∧ checkN n ss m bs = 0 ∧ min (prodN ss n) 200001 ≤ 5000 ∧ m < 20 ∧ p.cn ≤ 50 ∧ p.wn ≤ 50 ∧ beamB n p = true
section
variable {a : Option Addr} {n c : Nat} {ba : Option Addr} {m bc : Nat} {ss : Nat → SV} {bs : Nat → BM} {p : BM} {w W : World}
theorem MoIn.short (h : MoIn a n c ba m bc ss bs p w) (hb : Below w.heap.size w W) : Calls Tryd.prog 9 #[imageV a n c ba m bc] W fun e w' => e = .returned (.bool (shortB n m bs)) ∧ Below W.heap.size W w' := short_any a n c ba m bc bs W _ (h.im.B' hb) h.im.spans.1 (h.im.M hb)
theorem MoIn.check (h : MoIn a n c ba m bc ss bs p w) (hb : Below w.heap.size w W) : Calls Tryd.prog 10 #[imageV a n c ba m bc] W fun e w' => e = .returned (.int .i64 (checkN n ss m bs)) ∧ Below W.heap.size W w' := r8Check_any a n c ba m bc ss bs W _ (h.im.B' hb) (h.im.S hb) (h.im.M hb)
theorem MoIn.fields (h : MoIn a n c ba m bc ss bs p w) (hC : checkN n ss m bs = 0) (hb : Below w.heap.size w W) : Calls Tryd.prog 11 #[imageV a n c ba m bc] W fun e w' => e = .returned (.int .i64 (min (prodN ss n) 200001)) ∧ Below W.heap.size W w' := r8Fields_any a n c ba m bc ss W _ (h.im.B' hb) (h.im.S hb) (checkN_shape hC).span
theorem MoIn.beamC (h : MoIn a n c ba m bc ss bs p w) (hb : Below w.heap.size w W) : Calls Tryd.prog 12 #[p.val, .int .i64 (n : Int)] W fun e w' => e = .returned (.bool (beamB n p)) ∧ Below W.heap.size W w' := r8Beam_any p n W W.heap.size (Nat.le_refl _) h.im.spans.1 ((h.mem.below hb).up hb.size)
end
/-- the image with a beam more, in a box -/
structure XAt (a : Option Addr) (n c : Nat) (m : Nat) (bs : Nat → BM) (p : BM) (xb g gc : Nat) (W : World) : Prop where
  row : W.heap[xb]? = some (.cells #[.slice a n c, .slice (some ⟨g, 0, none⟩) (m + 1) gc] 25)
  beams : Beams W.heap.size W (some ⟨g, 0, none⟩) (m + 1) (withB m bs p)
theorem XAt.step {a : Option Addr} {n c : Nat} {m : Nat} {bs : Nat → BM} {p : BM} {xb g gc : Nat} {W W' : World} (h : XAt a n c m bs p xb g gc W) (hb : Below W.heap.size W W') : XAt a n c m bs p xb g gc W' :=
  ⟨(hb.block _ (Array.getElem?_eq_some_iff.1 h.row).1).trans h.row, (h.beams.below hb).up hb.size⟩
/-- the bounds of all cells -/
def bdF (n : Nat) (ss : Nat → SV) (m : Nat) (bs : Nat → BM) (i : Nat) : SV := bnd (fun f => fOf f i) (allF n ss m bs)
theorem bd_tight {n m : Nat} {ss : Nat → SV} {bs : Nat → BM} (hA : allF n ss m bs ≠ []) : bdF n (bdF n ss m bs) m bs = bdF n ss m bs := by
  funext i
  unfold bdF
  rw [show allF n (fun i => bnd (fun f => fOf f i) (allF n ss m bs)) m bs = allF n ss m bs from tight_all hA]
section
variable {a : Option Addr} {n c : Nat} {ba : Option Addr} {m bc : Nat} {ss : Nat → SV} {bs : Nat → BM} {p : BM} {w W : World}
theorem bounds_nil {B : Nat} (hB : B ≤ W.heap.size) (hS : Spans B W a n ss) (hM : Beams B W ba m bs) (hC : checkN n ss m bs = 0) (hA : allF n ss m bs = []) : Calls Tryd.prog 14 #[imageV a n c ba m bc] W fun e w' => e = .returned (.tuple #[.slice none 0 0, .int .i64 5]) ∧ Below W.heap.size W w' :=
  (Bounds_any a n c ba m bc ss bs W B hB hS hM).mono fun e w' h => by
    have h2 := h.2
    rw [if_pos hC, if_pos hA] at h2
    exact ⟨h2, h.1⟩
theorem bounds_some {B : Nat} (hB : B ≤ W.heap.size) (hS : Spans B W a n ss) (hM : Beams B W ba m bs) (hC : checkN n ss m bs = 0) (hA : allF n ss m bs ≠ []) : Calls Tryd.prog 14 #[imageV a n c ba m bc] W fun e w' => (∃ ob, e = .returned (.tuple #[.slice (some ⟨ob, 0, none⟩) n n, .int .i64 0]) ∧ Spans w'.heap.size w' (some ⟨ob, 0, none⟩) n (bdF n ss m bs)) ∧ Below W.heap.size W w' :=
  (Bounds_any a n c ba m bc ss bs W B hB hS hM).mono fun e w' h' => by
    have h2 := h'.2
    rw [if_pos hC, if_neg hA] at h2
    obtain ⟨ob, he, _, hs⟩ := h2
    exact ⟨⟨ob, he, hS.1, .inr ⟨ob, 0, rfl, hs.lt, fun i hi => by rw [Nat.zero_add]; exact hs.cell hi⟩⟩, h'.1⟩
theorem count_ok {B : Nat} (hB : B ≤ W.heap.size) (hS : Spans B W a n ss) (hM : Beams B W ba m bs) (hC : checkN n ss m bs = 0) : Calls Tryd.prog 15 #[imageV a n c ba m bc] W fun e w' => e = .returned (.tuple #[.int .i64 ((allF n ss m bs).length : Int), .int .i64 0]) ∧ Below W.heap.size W w' :=
  (Count_any a n c ba m bc ss bs W B hB hS hM).mono fun e w' h => by
    have h2 := h.2
    rw [hC, if_pos rfl] at h2
    exact ⟨h2, h.1⟩
end
set_option maxRecDepth 100000 in
set_option maxHeartbeats 4000000 in
theorem More_no (a : Option Addr) (n c : Nat) (ba : Option Addr) (m bc : Nat) (ss : Nat → SV) (bs : Nat → BM) (p : BM) (w : World) (h : MoIn a n c ba m bc ss bs p w) (hno : ¬ MoYes n ss m bs p) :
    Calls Tryd.prog 3 #[imageV a n c ba m bc, p.val] w fun e w' => e = .returned (.bool true) ∧ Below w.heap.size w w' := by
  have HKN := Lib.hid (fun (W : World) (hb : Below w.heap.size w W) => h.im.known hb)
  have HST := Lib.hid (fun (W : World) (hb : Below w.heap.size w W) => h.short hb)
  have HCH := Lib.hid (fun (W : World) (hb : Below w.heap.size w W) => h.check hb)
  have HBM := Lib.hid (fun (W : World) (hb : Below w.heap.size w W) => h.beamC hb)
  have HFS0 := Lib.hid (fun (hC : checkN n ss m bs = 0) (W : World) (hb : Below w.heap.size w W) => h.fields hC hb)
  have hmm := h.im.beams.1
  have hc1 := h.mem.1
  have hc2 := h.mem.2.1
  unfold maxLen at hmm hc1 hc2
  have hn := h.im.spans.1
  unfold maxLen at hn
  have HNN := Lib.hid hno
  clear hno h
  unfold MoYes at HNN
  generalize beamB n p = BB at *
  obtain ⟨qca, qcn, qcc, qwa, qwn, qwc, qlo, qhi, qcs, qws⟩ := p
  dsimp only [BM.val] at HBM HNN hc1 hc2 ⊢
  cases h1 : shortB n m bs
  · rw [h1] at HST
    clear HNN
    go_enter Tryd.func3, Tryd.ntmps3; go_upto_region 1 with (fail); have HL := Lib.hid (show MB a n c ba m bc ⟨qca, qcn, qcc, qwa, qwn, qwc, qlo, qhi, qcs, qws⟩ w ((w.alloc (.cells #[.slice a n c, .slice ba m bc] 25)).alloc (.cells #[.slice qca qcn qcc, .slice qwa qwn qwc, .int .i64 qlo, .int .i64 qhi] 28)) from MB.start); generalize World.alloc (World.alloc w _) _ = V at *; (try clear l0 l1 l2 l3 y0 y1 y2 y3); obtain ⟨l0, l1, l2, l3⟩ := HL.out.li; have y0 := (cell_of_row _ _ 0 _ _ _ HL.out.beam).trans (show _ = some (Value.slice qca qcn qcc) from rfl); have y1 := (cell_of_row _ _ 1 _ _ _ HL.out.beam).trans (show _ = some (Value.slice qwa qwn qwc) from rfl); have y2 := (cell_of_row _ _ 2 _ _ _ HL.out.beam).trans (show _ = some (Value.int .i64 qlo) from rfl); have y3 := (cell_of_row _ _ 3 _ _ _ HL.out.beam).trans (show _ = some (Value.int .i64 qhi) from rfl)
    go_wp2_with (first | (go_at_call 9; refine (HST.out _ l3).mono ?_; rintro e w2 ⟨rfl, hb2⟩; have HLx := Lib.hid (HL.out.step hb2); clear HL hb2; have HL := HLx; clear HLx; (try clear l0 l1 l2 l3 y0 y1 y2 y3); obtain ⟨l0, l1, l2, l3⟩ := HL.out.li; have y0 := (cell_of_row _ _ 0 _ _ _ HL.out.beam).trans (show _ = some (Value.slice qca qcn qcc) from rfl); have y1 := (cell_of_row _ _ 1 _ _ _ HL.out.beam).trans (show _ = some (Value.slice qwa qwn qwc) from rfl); have y2 := (cell_of_row _ _ 2 _ _ _ HL.out.beam).trans (show _ = some (Value.int .i64 qlo) from rfl); have y3 := (cell_of_row _ _ 3 _ _ _ HL.out.beam).trans (show _ = some (Value.int .i64 qhi) from rfl)) | (go_at_call 10; refine (HCH.out _ l3).mono ?_; rintro e w3 ⟨rfl, hb3⟩; have HLx := Lib.hid (HL.out.step hb3); clear HL hb3; have HL := HLx; clear HLx; (try clear l0 l1 l2 l3 y0 y1 y2 y3); obtain ⟨l0, l1, l2, l3⟩ := HL.out.li; have y0 := (cell_of_row _ _ 0 _ _ _ HL.out.beam).trans (show _ = some (Value.slice qca qcn qcc) from rfl); have y1 := (cell_of_row _ _ 1 _ _ _ HL.out.beam).trans (show _ = some (Value.slice qwa qwn qwc) from rfl); have y2 := (cell_of_row _ _ 2 _ _ _ HL.out.beam).trans (show _ = some (Value.int .i64 qlo) from rfl); have y3 := (cell_of_row _ _ 3 _ _ _ HL.out.beam).trans (show _ = some (Value.int .i64 qhi) from rfl)) | (go_at_call 11; refine (HFS.out _ l3).mono ?_; rintro e w4 ⟨rfl, hb4⟩; have HLx := Lib.hid (HL.out.step hb4); clear HL hb4; have HL := HLx; clear HLx; (try clear l0 l1 l2 l3 y0 y1 y2 y3); obtain ⟨l0, l1, l2, l3⟩ := HL.out.li; have y0 := (cell_of_row _ _ 0 _ _ _ HL.out.beam).trans (show _ = some (Value.slice qca qcn qcc) from rfl); have y1 := (cell_of_row _ _ 1 _ _ _ HL.out.beam).trans (show _ = some (Value.slice qwa qwn qwc) from rfl); have y2 := (cell_of_row _ _ 2 _ _ _ HL.out.beam).trans (show _ = some (Value.int .i64 qlo) from rfl); have y3 := (cell_of_row _ _ 3 _ _ _ HL.out.beam).trans (show _ = some (Value.int .i64 qhi) from rfl)) | (go_at_call 12; refine (HBM.out _ l3).mono ?_; rintro e w5 ⟨rfl, hb5⟩; have HLx := Lib.hid (HL.out.step hb5); clear HL hb5; have HL := HLx; clear HLx; (try clear l0 l1 l2 l3 y0 y1 y2 y3); obtain ⟨l0, l1, l2, l3⟩ := HL.out.li; have y0 := (cell_of_row _ _ 0 _ _ _ HL.out.beam).trans (show _ = some (Value.slice qca qcn qcc) from rfl); have y1 := (cell_of_row _ _ 1 _ _ _ HL.out.beam).trans (show _ = some (Value.slice qwa qwn qwc) from rfl); have y2 := (cell_of_row _ _ 2 _ _ _ HL.out.beam).trans (show _ = some (Value.int .i64 qlo) from rfl); have y3 := (cell_of_row _ _ 3 _ _ _ HL.out.beam).trans (show _ = some (Value.int .i64 qhi) from rfl)) | (go_at_call 13; refine (HKN.out _ l3).mono ?_; rintro e w6 ⟨rfl, hb6⟩; have HLx := Lib.hid (HL.out.step hb6); clear HL hb6; have HL := HLx; clear HLx; (try clear l0 l1 l2 l3 y0 y1 y2 y3); obtain ⟨l0, l1, l2, l3⟩ := HL.out.li; have y0 := (cell_of_row _ _ 0 _ _ _ HL.out.beam).trans (show _ = some (Value.slice qca qcn qcc) from rfl); have y1 := (cell_of_row _ _ 1 _ _ _ HL.out.beam).trans (show _ = some (Value.slice qwa qwn qwc) from rfl); have y2 := (cell_of_row _ _ 2 _ _ _ HL.out.beam).trans (show _ = some (Value.int .i64 qlo) from rfl); have y3 := (cell_of_row _ _ 3 _ _ _ HL.out.beam).trans (show _ = some (Value.int .i64 qhi) from rfl)))
    go_ret
    exact ⟨rfl, l3⟩
  rw [h1] at HST
  by_cases hC : checkN n ss m bs = 0
  · have HFS := Lib.hid (HFS0.out hC)
    rw [hC] at HCH
    by_cases h3 : min (prodN ss n) 200001 ≤ 5000
    · by_cases h4 : m < 20
      · by_cases h5 : qcn ≤ 50
        · by_cases h6 : qwn ≤ 50
          · have h7 : BB = false := by
              cases e : BB
              · rfl
              · exact absurd ⟨h1, hC, h3, h4, h5, h6, e⟩ HNN.out
            subst h7
            generalize min (prodN ss n) 200001 = P at *
            have h3' : ¬ 5000 < P := by omega
            have h4' : ¬ 20 ≤ (m : Int) := by omega
            have h5' : ¬ 50 < (qcn : Int) := by omega
            have h6' : ¬ 50 < (qwn : Int) := by omega
            clear HNN hC h3 h4 h5 h6 HFS0
            go_enter Tryd.func3, Tryd.ntmps3; go_upto_region 1 with (fail); have HL := Lib.hid (show MB a n c ba m bc ⟨qca, qcn, qcc, qwa, qwn, qwc, qlo, qhi, qcs, qws⟩ w ((w.alloc (.cells #[.slice a n c, .slice ba m bc] 25)).alloc (.cells #[.slice qca qcn qcc, .slice qwa qwn qwc, .int .i64 qlo, .int .i64 qhi] 28)) from MB.start); generalize World.alloc (World.alloc w _) _ = V at *; (try clear l0 l1 l2 l3 y0 y1 y2 y3); obtain ⟨l0, l1, l2, l3⟩ := HL.out.li; have y0 := (cell_of_row _ _ 0 _ _ _ HL.out.beam).trans (show _ = some (Value.slice qca qcn qcc) from rfl); have y1 := (cell_of_row _ _ 1 _ _ _ HL.out.beam).trans (show _ = some (Value.slice qwa qwn qwc) from rfl); have y2 := (cell_of_row _ _ 2 _ _ _ HL.out.beam).trans (show _ = some (Value.int .i64 qlo) from rfl); have y3 := (cell_of_row _ _ 3 _ _ _ HL.out.beam).trans (show _ = some (Value.int .i64 qhi) from rfl)
            go_wp2_with (first | (go_at_call 9; refine (HST.out _ l3).mono ?_; rintro e w2 ⟨rfl, hb2⟩; have HLx := Lib.hid (HL.out.step hb2); clear HL hb2; have HL := HLx; clear HLx; (try clear l0 l1 l2 l3 y0 y1 y2 y3); obtain ⟨l0, l1, l2, l3⟩ := HL.out.li; have y0 := (cell_of_row _ _ 0 _ _ _ HL.out.beam).trans (show _ = some (Value.slice qca qcn qcc) from rfl); have y1 := (cell_of_row _ _ 1 _ _ _ HL.out.beam).trans (show _ = some (Value.slice qwa qwn qwc) from rfl); have y2 := (cell_of_row _ _ 2 _ _ _ HL.out.beam).trans (show _ = some (Value.int .i64 qlo) from rfl); have y3 := (cell_of_row _ _ 3 _ _ _ HL.out.beam).trans (show _ = some (Value.int .i64 qhi) from rfl)) | (go_at_call 10; refine (HCH.out _ l3).mono ?_; rintro e w3 ⟨rfl, hb3⟩; have HLx := Lib.hid (HL.out.step hb3); clear HL hb3; have HL := HLx; clear HLx; (try clear l0 l1 l2 l3 y0 y1 y2 y3); obtain ⟨l0, l1, l2, l3⟩ := HL.out.li; have y0 := (cell_of_row _ _ 0 _ _ _ HL.out.beam).trans (show _ = some (Value.slice qca qcn qcc) from rfl); have y1 := (cell_of_row _ _ 1 _ _ _ HL.out.beam).trans (show _ = some (Value.slice qwa qwn qwc) from rfl); have y2 := (cell_of_row _ _ 2 _ _ _ HL.out.beam).trans (show _ = some (Value.int .i64 qlo) from rfl); have y3 := (cell_of_row _ _ 3 _ _ _ HL.out.beam).trans (show _ = some (Value.int .i64 qhi) from rfl)) | (go_at_call 11; refine (HFS.out _ l3).mono ?_; rintro e w4 ⟨rfl, hb4⟩; have HLx := Lib.hid (HL.out.step hb4); clear HL hb4; have HL := HLx; clear HLx; (try clear l0 l1 l2 l3 y0 y1 y2 y3); obtain ⟨l0, l1, l2, l3⟩ := HL.out.li; have y0 := (cell_of_row _ _ 0 _ _ _ HL.out.beam).trans (show _ = some (Value.slice qca qcn qcc) from rfl); have y1 := (cell_of_row _ _ 1 _ _ _ HL.out.beam).trans (show _ = some (Value.slice qwa qwn qwc) from rfl); have y2 := (cell_of_row _ _ 2 _ _ _ HL.out.beam).trans (show _ = some (Value.int .i64 qlo) from rfl); have y3 := (cell_of_row _ _ 3 _ _ _ HL.out.beam).trans (show _ = some (Value.int .i64 qhi) from rfl)) | (go_at_call 12; refine (HBM.out _ l3).mono ?_; rintro e w5 ⟨rfl, hb5⟩; have HLx := Lib.hid (HL.out.step hb5); clear HL hb5; have HL := HLx; clear HLx; (try clear l0 l1 l2 l3 y0 y1 y2 y3); obtain ⟨l0, l1, l2, l3⟩ := HL.out.li; have y0 := (cell_of_row _ _ 0 _ _ _ HL.out.beam).trans (show _ = some (Value.slice qca qcn qcc) from rfl); have y1 := (cell_of_row _ _ 1 _ _ _ HL.out.beam).trans (show _ = some (Value.slice qwa qwn qwc) from rfl); have y2 := (cell_of_row _ _ 2 _ _ _ HL.out.beam).trans (show _ = some (Value.int .i64 qlo) from rfl); have y3 := (cell_of_row _ _ 3 _ _ _ HL.out.beam).trans (show _ = some (Value.int .i64 qhi) from rfl)) | (go_at_call 13; refine (HKN.out _ l3).mono ?_; rintro e w6 ⟨rfl, hb6⟩; have HLx := Lib.hid (HL.out.step hb6); clear HL hb6; have HL := HLx; clear HLx; (try clear l0 l1 l2 l3 y0 y1 y2 y3); obtain ⟨l0, l1, l2, l3⟩ := HL.out.li; have y0 := (cell_of_row _ _ 0 _ _ _ HL.out.beam).trans (show _ = some (Value.slice qca qcn qcc) from rfl); have y1 := (cell_of_row _ _ 1 _ _ _ HL.out.beam).trans (show _ = some (Value.slice qwa qwn qwc) from rfl); have y2 := (cell_of_row _ _ 2 _ _ _ HL.out.beam).trans (show _ = some (Value.int .i64 qlo) from rfl); have y3 := (cell_of_row _ _ 3 _ _ _ HL.out.beam).trans (show _ = some (Value.int .i64 qhi) from rfl)))
            go_ret
            exact ⟨rfl, l3⟩
          · generalize min (prodN ss n) 200001 = P at *
            have h3' : ¬ 5000 < P := by omega
            have h4' : ¬ 20 ≤ (m : Int) := by omega
            have h5' : ¬ 50 < (qcn : Int) := by omega
            have h6' : 50 < (qwn : Int) := by omega
            clear HNN hC h3 h4 h5 h6 HFS0
            go_enter Tryd.func3, Tryd.ntmps3; go_upto_region 1 with (fail); have HL := Lib.hid (show MB a n c ba m bc ⟨qca, qcn, qcc, qwa, qwn, qwc, qlo, qhi, qcs, qws⟩ w ((w.alloc (.cells #[.slice a n c, .slice ba m bc] 25)).alloc (.cells #[.slice qca qcn qcc, .slice qwa qwn qwc, .int .i64 qlo, .int .i64 qhi] 28)) from MB.start); generalize World.alloc (World.alloc w _) _ = V at *; (try clear l0 l1 l2 l3 y0 y1 y2 y3); obtain ⟨l0, l1, l2, l3⟩ := HL.out.li; have y0 := (cell_of_row _ _ 0 _ _ _ HL.out.beam).trans (show _ = some (Value.slice qca qcn qcc) from rfl); have y1 := (cell_of_row _ _ 1 _ _ _ HL.out.beam).trans (show _ = some (Value.slice qwa qwn qwc) from rfl); have y2 := (cell_of_row _ _ 2 _ _ _ HL.out.beam).trans (show _ = some (Value.int .i64 qlo) from rfl); have y3 := (cell_of_row _ _ 3 _ _ _ HL.out.beam).trans (show _ = some (Value.int .i64 qhi) from rfl)
            go_wp2_with (first | (go_at_call 9; refine (HST.out _ l3).mono ?_; rintro e w2 ⟨rfl, hb2⟩; have HLx := Lib.hid (HL.out.step hb2); clear HL hb2; have HL := HLx; clear HLx; (try clear l0 l1 l2 l3 y0 y1 y2 y3); obtain ⟨l0, l1, l2, l3⟩ := HL.out.li; have y0 := (cell_of_row _ _ 0 _ _ _ HL.out.beam).trans (show _ = some (Value.slice qca qcn qcc) from rfl); have y1 := (cell_of_row _ _ 1 _ _ _ HL.out.beam).trans (show _ = some (Value.slice qwa qwn qwc) from rfl); have y2 := (cell_of_row _ _ 2 _ _ _ HL.out.beam).trans (show _ = some (Value.int .i64 qlo) from rfl); have y3 := (cell_of_row _ _ 3 _ _ _ HL.out.beam).trans (show _ = some (Value.int .i64 qhi) from rfl)) | (go_at_call 10; refine (HCH.out _ l3).mono ?_; rintro e w3 ⟨rfl, hb3⟩; have HLx := Lib.hid (HL.out.step hb3); clear HL hb3; have HL := HLx; clear HLx; (try clear l0 l1 l2 l3 y0 y1 y2 y3); obtain ⟨l0, l1, l2, l3⟩ := HL.out.li; have y0 := (cell_of_row _ _ 0 _ _ _ HL.out.beam).trans (show _ = some (Value.slice qca qcn qcc) from rfl); have y1 := (cell_of_row _ _ 1 _ _ _ HL.out.beam).trans (show _ = some (Value.slice qwa qwn qwc) from rfl); have y2 := (cell_of_row _ _ 2 _ _ _ HL.out.beam).trans (show _ = some (Value.int .i64 qlo) from rfl); have y3 := (cell_of_row _ _ 3 _ _ _ HL.out.beam).trans (show _ = some (Value.int .i64 qhi) from rfl)) | (go_at_call 11; refine (HFS.out _ l3).mono ?_; rintro e w4 ⟨rfl, hb4⟩; have HLx := Lib.hid (HL.out.step hb4); clear HL hb4; have HL := HLx; clear HLx; (try clear l0 l1 l2 l3 y0 y1 y2 y3); obtain ⟨l0, l1, l2, l3⟩ := HL.out.li; have y0 := (cell_of_row _ _ 0 _ _ _ HL.out.beam).trans (show _ = some (Value.slice qca qcn qcc) from rfl); have y1 := (cell_of_row _ _ 1 _ _ _ HL.out.beam).trans (show _ = some (Value.slice qwa qwn qwc) from rfl); have y2 := (cell_of_row _ _ 2 _ _ _ HL.out.beam).trans (show _ = some (Value.int .i64 qlo) from rfl); have y3 := (cell_of_row _ _ 3 _ _ _ HL.out.beam).trans (show _ = some (Value.int .i64 qhi) from rfl)) | (go_at_call 12; refine (HBM.out _ l3).mono ?_; rintro e w5 ⟨rfl, hb5⟩; have HLx := Lib.hid (HL.out.step hb5); clear HL hb5; have HL := HLx; clear HLx; (try clear l0 l1 l2 l3 y0 y1 y2 y3); obtain ⟨l0, l1, l2, l3⟩ := HL.out.li; have y0 := (cell_of_row _ _ 0 _ _ _ HL.out.beam).trans (show _ = some (Value.slice qca qcn qcc) from rfl); have y1 := (cell_of_row _ _ 1 _ _ _ HL.out.beam).trans (show _ = some (Value.slice qwa qwn qwc) from rfl); have y2 := (cell_of_row _ _ 2 _ _ _ HL.out.beam).trans (show _ = some (Value.int .i64 qlo) from rfl); have y3 := (cell_of_row _ _ 3 _ _ _ HL.out.beam).trans (show _ = some (Value.int .i64 qhi) from rfl)) | (go_at_call 13; refine (HKN.out _ l3).mono ?_; rintro e w6 ⟨rfl, hb6⟩; have HLx := Lib.hid (HL.out.step hb6); clear HL hb6; have HL := HLx; clear HLx; (try clear l0 l1 l2 l3 y0 y1 y2 y3); obtain ⟨l0, l1, l2, l3⟩ := HL.out.li; have y0 := (cell_of_row _ _ 0 _ _ _ HL.out.beam).trans (show _ = some (Value.slice qca qcn qcc) from rfl); have y1 := (cell_of_row _ _ 1 _ _ _ HL.out.beam).trans (show _ = some (Value.slice qwa qwn qwc) from rfl); have y2 := (cell_of_row _ _ 2 _ _ _ HL.out.beam).trans (show _ = some (Value.int .i64 qlo) from rfl); have y3 := (cell_of_row _ _ 3 _ _ _ HL.out.beam).trans (show _ = some (Value.int .i64 qhi) from rfl)))
            go_ret
            exact ⟨rfl, l3⟩
        · generalize min (prodN ss n) 200001 = P at *
          have h3' : ¬ 5000 < P := by omega
          have h4' : ¬ 20 ≤ (m : Int) := by omega
          have h5' : 50 < (qcn : Int) := by omega
          clear HNN hC h3 h4 h5 HFS0
          go_enter Tryd.func3, Tryd.ntmps3; go_upto_region 1 with (fail); have HL := Lib.hid (show MB a n c ba m bc ⟨qca, qcn, qcc, qwa, qwn, qwc, qlo, qhi, qcs, qws⟩ w ((w.alloc (.cells #[.slice a n c, .slice ba m bc] 25)).alloc (.cells #[.slice qca qcn qcc, .slice qwa qwn qwc, .int .i64 qlo, .int .i64 qhi] 28)) from MB.start); generalize World.alloc (World.alloc w _) _ = V at *; (try clear l0 l1 l2 l3 y0 y1 y2 y3); obtain ⟨l0, l1, l2, l3⟩ := HL.out.li; have y0 := (cell_of_row _ _ 0 _ _ _ HL.out.beam).trans (show _ = some (Value.slice qca qcn qcc) from rfl); have y1 := (cell_of_row _ _ 1 _ _ _ HL.out.beam).trans (show _ = some (Value.slice qwa qwn qwc) from rfl); have y2 := (cell_of_row _ _ 2 _ _ _ HL.out.beam).trans (show _ = some (Value.int .i64 qlo) from rfl); have y3 := (cell_of_row _ _ 3 _ _ _ HL.out.beam).trans (show _ = some (Value.int .i64 qhi) from rfl)
          go_wp2_with (first | (go_at_call 9; refine (HST.out _ l3).mono ?_; rintro e w2 ⟨rfl, hb2⟩; have HLx := Lib.hid (HL.out.step hb2); clear HL hb2; have HL := HLx; clear HLx; (try clear l0 l1 l2 l3 y0 y1 y2 y3); obtain ⟨l0, l1, l2, l3⟩ := HL.out.li; have y0 := (cell_of_row _ _ 0 _ _ _ HL.out.beam).trans (show _ = some (Value.slice qca qcn qcc) from rfl); have y1 := (cell_of_row _ _ 1 _ _ _ HL.out.beam).trans (show _ = some (Value.slice qwa qwn qwc) from rfl); have y2 := (cell_of_row _ _ 2 _ _ _ HL.out.beam).trans (show _ = some (Value.int .i64 qlo) from rfl); have y3 := (cell_of_row _ _ 3 _ _ _ HL.out.beam).trans (show _ = some (Value.int .i64 qhi) from rfl)) | (go_at_call 10; refine (HCH.out _ l3).mono ?_; rintro e w3 ⟨rfl, hb3⟩; have HLx := Lib.hid (HL.out.step hb3); clear HL hb3; have HL := HLx; clear HLx; (try clear l0 l1 l2 l3 y0 y1 y2 y3); obtain ⟨l0, l1, l2, l3⟩ := HL.out.li; have y0 := (cell_of_row _ _ 0 _ _ _ HL.out.beam).trans (show _ = some (Value.slice qca qcn qcc) from rfl); have y1 := (cell_of_row _ _ 1 _ _ _ HL.out.beam).trans (show _ = some (Value.slice qwa qwn qwc) from rfl); have y2 := (cell_of_row _ _ 2 _ _ _ HL.out.beam).trans (show _ = some (Value.int .i64 qlo) from rfl); have y3 := (cell_of_row _ _ 3 _ _ _ HL.out.beam).trans (show _ = some (Value.int .i64 qhi) from rfl)) | (go_at_call 11; refine (HFS.out _ l3).mono ?_; rintro e w4 ⟨rfl, hb4⟩; have HLx := Lib.hid (HL.out.step hb4); clear HL hb4; have HL := HLx; clear HLx; (try clear l0 l1 l2 l3 y0 y1 y2 y3); obtain ⟨l0, l1, l2, l3⟩ := HL.out.li; have y0 := (cell_of_row _ _ 0 _ _ _ HL.out.beam).trans (show _ = some (Value.slice qca qcn qcc) from rfl); have y1 := (cell_of_row _ _ 1 _ _ _ HL.out.beam).trans (show _ = some (Value.slice qwa qwn qwc) from rfl); have y2 := (cell_of_row _ _ 2 _ _ _ HL.out.beam).trans (show _ = some (Value.int .i64 qlo) from rfl); have y3 := (cell_of_row _ _ 3 _ _ _ HL.out.beam).trans (show _ = some (Value.int .i64 qhi) from rfl)) | (go_at_call 12; refine (HBM.out _ l3).mono ?_; rintro e w5 ⟨rfl, hb5⟩; have HLx := Lib.hid (HL.out.step hb5); clear HL hb5; have HL := HLx; clear HLx; (try clear l0 l1 l2 l3 y0 y1 y2 y3); obtain ⟨l0, l1, l2, l3⟩ := HL.out.li; have y0 := (cell_of_row _ _ 0 _ _ _ HL.out.beam).trans (show _ = some (Value.slice qca qcn qcc) from rfl); have y1 := (cell_of_row _ _ 1 _ _ _ HL.out.beam).trans (show _ = some (Value.slice qwa qwn qwc) from rfl); have y2 := (cell_of_row _ _ 2 _ _ _ HL.out.beam).trans (show _ = some (Value.int .i64 qlo) from rfl); have y3 := (cell_of_row _ _ 3 _ _ _ HL.out.beam).trans (show _ = some (Value.int .i64 qhi) from rfl)) | (go_at_call 13; refine (HKN.out _ l3).mono ?_; rintro e w6 ⟨rfl, hb6⟩; have HLx := Lib.hid (HL.out.step hb6); clear HL hb6; have HL := HLx; clear HLx; (try clear l0 l1 l2 l3 y0 y1 y2 y3); obtain ⟨l0, l1, l2, l3⟩ := HL.out.li; have y0 := (cell_of_row _ _ 0 _ _ _ HL.out.beam).trans (show _ = some (Value.slice qca qcn qcc) from rfl); have y1 := (cell_of_row _ _ 1 _ _ _ HL.out.beam).trans (show _ = some (Value.slice qwa qwn qwc) from rfl); have y2 := (cell_of_row _ _ 2 _ _ _ HL.out.beam).trans (show _ = some (Value.int .i64 qlo) from rfl); have y3 := (cell_of_row _ _ 3 _ _ _ HL.out.beam).trans (show _ = some (Value.int .i64 qhi) from rfl)))
          go_ret
          exact ⟨rfl, l3⟩
      · generalize min (prodN ss n) 200001 = P at *
        have h3' : ¬ 5000 < P := by omega
        have h4' : 20 ≤ (m : Int) := by omega
        clear HNN hC h3 h4 HFS0
        go_enter Tryd.func3, Tryd.ntmps3; go_upto_region 1 with (fail); have HL := Lib.hid (show MB a n c ba m bc ⟨qca, qcn, qcc, qwa, qwn, qwc, qlo, qhi, qcs, qws⟩ w ((w.alloc (.cells #[.slice a n c, .slice ba m bc] 25)).alloc (.cells #[.slice qca qcn qcc, .slice qwa qwn qwc, .int .i64 qlo, .int .i64 qhi] 28)) from MB.start); generalize World.alloc (World.alloc w _) _ = V at *; (try clear l0 l1 l2 l3 y0 y1 y2 y3); obtain ⟨l0, l1, l2, l3⟩ := HL.out.li; have y0 := (cell_of_row _ _ 0 _ _ _ HL.out.beam).trans (show _ = some (Value.slice qca qcn qcc) from rfl); have y1 := (cell_of_row _ _ 1 _ _ _ HL.out.beam).trans (show _ = some (Value.slice qwa qwn qwc) from rfl); have y2 := (cell_of_row _ _ 2 _ _ _ HL.out.beam).trans (show _ = some (Value.int .i64 qlo) from rfl); have y3 := (cell_of_row _ _ 3 _ _ _ HL.out.beam).trans (show _ = some (Value.int .i64 qhi) from rfl)
        go_wp2_with (first | (go_at_call 9; refine (HST.out _ l3).mono ?_; rintro e w2 ⟨rfl, hb2⟩; have HLx := Lib.hid (HL.out.step hb2); clear HL hb2; have HL := HLx; clear HLx; (try clear l0 l1 l2 l3 y0 y1 y2 y3); obtain ⟨l0, l1, l2, l3⟩ := HL.out.li; have y0 := (cell_of_row _ _ 0 _ _ _ HL.out.beam).trans (show _ = some (Value.slice qca qcn qcc) from rfl); have y1 := (cell_of_row _ _ 1 _ _ _ HL.out.beam).trans (show _ = some (Value.slice qwa qwn qwc) from rfl); have y2 := (cell_of_row _ _ 2 _ _ _ HL.out.beam).trans (show _ = some (Value.int .i64 qlo) from rfl); have y3 := (cell_of_row _ _ 3 _ _ _ HL.out.beam).trans (show _ = some (Value.int .i64 qhi) from rfl)) | (go_at_call 10; refine (HCH.out _ l3).mono ?_; rintro e w3 ⟨rfl, hb3⟩; have HLx := Lib.hid (HL.out.step hb3); clear HL hb3; have HL := HLx; clear HLx; (try clear l0 l1 l2 l3 y0 y1 y2 y3); obtain ⟨l0, l1, l2, l3⟩ := HL.out.li; have y0 := (cell_of_row _ _ 0 _ _ _ HL.out.beam).trans (show _ = some (Value.slice qca qcn qcc) from rfl); have y1 := (cell_of_row _ _ 1 _ _ _ HL.out.beam).trans (show _ = some (Value.slice qwa qwn qwc) from rfl); have y2 := (cell_of_row _ _ 2 _ _ _ HL.out.beam).trans (show _ = some (Value.int .i64 qlo) from rfl); have y3 := (cell_of_row _ _ 3 _ _ _ HL.out.beam).trans (show _ = some (Value.int .i64 qhi) from rfl)) | (go_at_call 11; refine (HFS.out _ l3).mono ?_; rintro e w4 ⟨rfl, hb4⟩; have HLx := Lib.hid (HL.out.step hb4); clear HL hb4; have HL := HLx; clear HLx; (try clear l0 l1 l2 l3 y0 y1 y2 y3); obtain ⟨l0, l1, l2, l3⟩ := HL.out.li; have y0 := (cell_of_row _ _ 0 _ _ _ HL.out.beam).trans (show _ = some (Value.slice qca qcn qcc) from rfl); have y1 := (cell_of_row _ _ 1 _ _ _ HL.out.beam).trans (show _ = some (Value.slice qwa qwn qwc) from rfl); have y2 := (cell_of_row _ _ 2 _ _ _ HL.out.beam).trans (show _ = some (Value.int .i64 qlo) from rfl); have y3 := (cell_of_row _ _ 3 _ _ _ HL.out.beam).trans (show _ = some (Value.int .i64 qhi) from rfl)) | (go_at_call 12; refine (HBM.out _ l3).mono ?_; rintro e w5 ⟨rfl, hb5⟩; have HLx := Lib.hid (HL.out.step hb5); clear HL hb5; have HL := HLx; clear HLx; (try clear l0 l1 l2 l3 y0 y1 y2 y3); obtain ⟨l0, l1, l2, l3⟩ := HL.out.li; have y0 := (cell_of_row _ _ 0 _ _ _ HL.out.beam).trans (show _ = some (Value.slice qca qcn qcc) from rfl); have y1 := (cell_of_row _ _ 1 _ _ _ HL.out.beam).trans (show _ = some (Value.slice qwa qwn qwc) from rfl); have y2 := (cell_of_row _ _ 2 _ _ _ HL.out.beam).trans (show _ = some (Value.int .i64 qlo) from rfl); have y3 := (cell_of_row _ _ 3 _ _ _ HL.out.beam).trans (show _ = some (Value.int .i64 qhi) from rfl)) | (go_at_call 13; refine (HKN.out _ l3).mono ?_; rintro e w6 ⟨rfl, hb6⟩; have HLx := Lib.hid (HL.out.step hb6); clear HL hb6; have HL := HLx; clear HLx; (try clear l0 l1 l2 l3 y0 y1 y2 y3); obtain ⟨l0, l1, l2, l3⟩ := HL.out.li; have y0 := (cell_of_row _ _ 0 _ _ _ HL.out.beam).trans (show _ = some (Value.slice qca qcn qcc) from rfl); have y1 := (cell_of_row _ _ 1 _ _ _ HL.out.beam).trans (show _ = some (Value.slice qwa qwn qwc) from rfl); have y2 := (cell_of_row _ _ 2 _ _ _ HL.out.beam).trans (show _ = some (Value.int .i64 qlo) from rfl); have y3 := (cell_of_row _ _ 3 _ _ _ HL.out.beam).trans (show _ = some (Value.int .i64 qhi) from rfl)))
        go_ret
        exact ⟨rfl, l3⟩
    · generalize min (prodN ss n) 200001 = P at *
      have h3' : 5000 < P := by omega
      clear HNN hC h3 HFS0
      go_enter Tryd.func3, Tryd.ntmps3; go_upto_region 1 with (fail); have HL := Lib.hid (show MB a n c ba m bc ⟨qca, qcn, qcc, qwa, qwn, qwc, qlo, qhi, qcs, qws⟩ w ((w.alloc (.cells #[.slice a n c, .slice ba m bc] 25)).alloc (.cells #[.slice qca qcn qcc, .slice qwa qwn qwc, .int .i64 qlo, .int .i64 qhi] 28)) from MB.start); generalize World.alloc (World.alloc w _) _ = V at *; (try clear l0 l1 l2 l3 y0 y1 y2 y3); obtain ⟨l0, l1, l2, l3⟩ := HL.out.li; have y0 := (cell_of_row _ _ 0 _ _ _ HL.out.beam).trans (show _ = some (Value.slice qca qcn qcc) from rfl); have y1 := (cell_of_row _ _ 1 _ _ _ HL.out.beam).trans (show _ = some (Value.slice qwa qwn qwc) from rfl); have y2 := (cell_of_row _ _ 2 _ _ _ HL.out.beam).trans (show _ = some (Value.int .i64 qlo) from rfl); have y3 := (cell_of_row _ _ 3 _ _ _ HL.out.beam).trans (show _ = some (Value.int .i64 qhi) from rfl)
      go_wp2_with (first | (go_at_call 9; refine (HST.out _ l3).mono ?_; rintro e w2 ⟨rfl, hb2⟩; have HLx := Lib.hid (HL.out.step hb2); clear HL hb2; have HL := HLx; clear HLx; (try clear l0 l1 l2 l3 y0 y1 y2 y3); obtain ⟨l0, l1, l2, l3⟩ := HL.out.li; have y0 := (cell_of_row _ _ 0 _ _ _ HL.out.beam).trans (show _ = some (Value.slice qca qcn qcc) from rfl); have y1 := (cell_of_row _ _ 1 _ _ _ HL.out.beam).trans (show _ = some (Value.slice qwa qwn qwc) from rfl); have y2 := (cell_of_row _ _ 2 _ _ _ HL.out.beam).trans (show _ = some (Value.int .i64 qlo) from rfl); have y3 := (cell_of_row _ _ 3 _ _ _ HL.out.beam).trans (show _ = some (Value.int .i64 qhi) from rfl)) | (go_at_call 10; refine (HCH.out _ l3).mono ?_; rintro e w3 ⟨rfl, hb3⟩; have HLx := Lib.hid (HL.out.step hb3); clear HL hb3; have HL := HLx; clear HLx; (try clear l0 l1 l2 l3 y0 y1 y2 y3); obtain ⟨l0, l1, l2, l3⟩ := HL.out.li; have y0 := (cell_of_row _ _ 0 _ _ _ HL.out.beam).trans (show _ = some (Value.slice qca qcn qcc) from rfl); have y1 := (cell_of_row _ _ 1 _ _ _ HL.out.beam).trans (show _ = some (Value.slice qwa qwn qwc) from rfl); have y2 := (cell_of_row _ _ 2 _ _ _ HL.out.beam).trans (show _ = some (Value.int .i64 qlo) from rfl); have y3 := (cell_of_row _ _ 3 _ _ _ HL.out.beam).trans (show _ = some (Value.int .i64 qhi) from rfl)) | (go_at_call 11; refine (HFS.out _ l3).mono ?_; rintro e w4 ⟨rfl, hb4⟩; have HLx := Lib.hid (HL.out.step hb4); clear HL hb4; have HL := HLx; clear HLx; (try clear l0 l1 l2 l3 y0 y1 y2 y3); obtain ⟨l0, l1, l2, l3⟩ := HL.out.li; have y0 := (cell_of_row _ _ 0 _ _ _ HL.out.beam).trans (show _ = some (Value.slice qca qcn qcc) from rfl); have y1 := (cell_of_row _ _ 1 _ _ _ HL.out.beam).trans (show _ = some (Value.slice qwa qwn qwc) from rfl); have y2 := (cell_of_row _ _ 2 _ _ _ HL.out.beam).trans (show _ = some (Value.int .i64 qlo) from rfl); have y3 := (cell_of_row _ _ 3 _ _ _ HL.out.beam).trans (show _ = some (Value.int .i64 qhi) from rfl)) | (go_at_call 12; refine (HBM.out _ l3).mono ?_; rintro e w5 ⟨rfl, hb5⟩; have HLx := Lib.hid (HL.out.step hb5); clear HL hb5; have HL := HLx; clear HLx; (try clear l0 l1 l2 l3 y0 y1 y2 y3); obtain ⟨l0, l1, l2, l3⟩ := HL.out.li; have y0 := (cell_of_row _ _ 0 _ _ _ HL.out.beam).trans (show _ = some (Value.slice qca qcn qcc) from rfl); have y1 := (cell_of_row _ _ 1 _ _ _ HL.out.beam).trans (show _ = some (Value.slice qwa qwn qwc) from rfl); have y2 := (cell_of_row _ _ 2 _ _ _ HL.out.beam).trans (show _ = some (Value.int .i64 qlo) from rfl); have y3 := (cell_of_row _ _ 3 _ _ _ HL.out.beam).trans (show _ = some (Value.int .i64 qhi) from rfl)) | (go_at_call 13; refine (HKN.out _ l3).mono ?_; rintro e w6 ⟨rfl, hb6⟩; have HLx := Lib.hid (HL.out.step hb6); clear HL hb6; have HL := HLx; clear HLx; (try clear l0 l1 l2 l3 y0 y1 y2 y3); obtain ⟨l0, l1, l2, l3⟩ := HL.out.li; have y0 := (cell_of_row _ _ 0 _ _ _ HL.out.beam).trans (show _ = some (Value.slice qca qcn qcc) from rfl); have y1 := (cell_of_row _ _ 1 _ _ _ HL.out.beam).trans (show _ = some (Value.slice qwa qwn qwc) from rfl); have y2 := (cell_of_row _ _ 2 _ _ _ HL.out.beam).trans (show _ = some (Value.int .i64 qlo) from rfl); have y3 := (cell_of_row _ _ 3 _ _ _ HL.out.beam).trans (show _ = some (Value.int .i64 qhi) from rfl)))
      go_ret
      exact ⟨rfl, l3⟩
  · have hne : (checkN n ss m bs == 0) = false := by rw [beq_eq_false_iff_ne]; exact hC
    clear HNN hC HFS0
    generalize checkN n ss m bs = E at *
    have hne2 : (E != 0) = true := by rw [bne, hne]; rfl
    go_enter Tryd.func3, Tryd.ntmps3; go_upto_region 1 with (fail); have HL := Lib.hid (show MB a n c ba m bc ⟨qca, qcn, qcc, qwa, qwn, qwc, qlo, qhi, qcs, qws⟩ w ((w.alloc (.cells #[.slice a n c, .slice ba m bc] 25)).alloc (.cells #[.slice qca qcn qcc, .slice qwa qwn qwc, .int .i64 qlo, .int .i64 qhi] 28)) from MB.start); generalize World.alloc (World.alloc w _) _ = V at *; (try clear l0 l1 l2 l3 y0 y1 y2 y3); obtain ⟨l0, l1, l2, l3⟩ := HL.out.li; have y0 := (cell_of_row _ _ 0 _ _ _ HL.out.beam).trans (show _ = some (Value.slice qca qcn qcc) from rfl); have y1 := (cell_of_row _ _ 1 _ _ _ HL.out.beam).trans (show _ = some (Value.slice qwa qwn qwc) from rfl); have y2 := (cell_of_row _ _ 2 _ _ _ HL.out.beam).trans (show _ = some (Value.int .i64 qlo) from rfl); have y3 := (cell_of_row _ _ 3 _ _ _ HL.out.beam).trans (show _ = some (Value.int .i64 qhi) from rfl)
    go_wp2_with (first | (go_at_call 9; refine (HST.out _ l3).mono ?_; rintro e w2 ⟨rfl, hb2⟩; have HLx := Lib.hid (HL.out.step hb2); clear HL hb2; have HL := HLx; clear HLx; (try clear l0 l1 l2 l3 y0 y1 y2 y3); obtain ⟨l0, l1, l2, l3⟩ := HL.out.li; have y0 := (cell_of_row _ _ 0 _ _ _ HL.out.beam).trans (show _ = some (Value.slice qca qcn qcc) from rfl); have y1 := (cell_of_row _ _ 1 _ _ _ HL.out.beam).trans (show _ = some (Value.slice qwa qwn qwc) from rfl); have y2 := (cell_of_row _ _ 2 _ _ _ HL.out.beam).trans (show _ = some (Value.int .i64 qlo) from rfl); have y3 := (cell_of_row _ _ 3 _ _ _ HL.out.beam).trans (show _ = some (Value.int .i64 qhi) from rfl)) | (go_at_call 10; refine (HCH.out _ l3).mono ?_; rintro e w3 ⟨rfl, hb3⟩; have HLx := Lib.hid (HL.out.step hb3); clear HL hb3; have HL := HLx; clear HLx; (try clear l0 l1 l2 l3 y0 y1 y2 y3); obtain ⟨l0, l1, l2, l3⟩ := HL.out.li; have y0 := (cell_of_row _ _ 0 _ _ _ HL.out.beam).trans (show _ = some (Value.slice qca qcn qcc) from rfl); have y1 := (cell_of_row _ _ 1 _ _ _ HL.out.beam).trans (show _ = some (Value.slice qwa qwn qwc) from rfl); have y2 := (cell_of_row _ _ 2 _ _ _ HL.out.beam).trans (show _ = some (Value.int .i64 qlo) from rfl); have y3 := (cell_of_row _ _ 3 _ _ _ HL.out.beam).trans (show _ = some (Value.int .i64 qhi) from rfl)) | (go_at_call 13; refine (HKN.out _ l3).mono ?_; rintro e w6 ⟨rfl, hb6⟩; have HLx := Lib.hid (HL.out.step hb6); clear HL hb6; have HL := HLx; clear HLx; (try clear l0 l1 l2 l3 y0 y1 y2 y3); obtain ⟨l0, l1, l2, l3⟩ := HL.out.li; have y0 := (cell_of_row _ _ 0 _ _ _ HL.out.beam).trans (show _ = some (Value.slice qca qcn qcc) from rfl); have y1 := (cell_of_row _ _ 1 _ _ _ HL.out.beam).trans (show _ = some (Value.slice qwa qwn qwc) from rfl); have y2 := (cell_of_row _ _ 2 _ _ _ HL.out.beam).trans (show _ = some (Value.int .i64 qlo) from rfl); have y3 := (cell_of_row _ _ 3 _ _ _ HL.out.beam).trans (show _ = some (Value.int .i64 qhi) from rfl)))
    go_ret
    exact ⟨rfl, l3⟩
end Go.Proofs.YtollfpnfnciekaaDoor
