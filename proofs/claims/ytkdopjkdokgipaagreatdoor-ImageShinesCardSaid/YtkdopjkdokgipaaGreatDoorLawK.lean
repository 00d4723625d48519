/- The walk of the statements' known. -/
import Derived.Test.YtkdopjkdokgipaaGreatDoorGqA
namespace Go.Proofs.YtkdopjkdokgipaaGreatDoor
open Go.RowKit
set_option linter.unusedVariables false
set_option linter.unusedSimpArgs false
/-- a world behind the first one; the table of powers -/
structure KW (w W : World) : Prop where
  below : Below w.heap.size w W
  tab : Lib.TabBelow Tryz.prog w.heap.size w "internal/strconv.uint64pow10" .u64 Lib.pow10Tab
theorem KW.step {w W W' : World} (h : KW w W) (hb : Below W.heap.size W W') : KW w W' := ⟨h.below.trans (hb.mono h.below.size), h.tab⟩
theorem KW.tabIs {w W : World} (h : KW w W) : Lib.TabIs Tryz.prog W "internal/strconv.uint64pow10" .u64 Lib.pow10Tab := h.tab W h.below
theorem Nodes.up' {B B' : Nat} {w : World} {a : Option Addr} {n : Nat} {ns : Nat → NM} (h : Nodes B w a n ns) (hb : B ≤ B') : Nodes B' w a n ns := by
  rcases h with h | ⟨b, off, ha, hB, hc⟩
  · exact .inl h
  · exact .inr ⟨b, off, ha, by omega, fun i hi => ⟨(hc i hi).1, (hc i hi).2.1, (hc i hi).2.2.up hb⟩⟩
structure K1 (w : World) (fa : Option Addr) (W : World) : Prop where
  kw : KW w W
  f : Ints W.heap.size W fa 4 (fOf [2, 3, 0, 0])
theorem K1.step {w W W' : World} {fa : Option Addr} (h : K1 w fa W) (hb : Below W.heap.size W W') : K1 w fa W' := ⟨h.kw.step hb, (h.f.below hb).up hb.size⟩
structure K2 (w : World) (fa ba : Option Addr) (W : World) : Prop where
  k1 : K1 w fa W
  b : Spans W.heap.size W ba 4 spK
theorem K2.step {w W W' : World} {fa ba : Option Addr} (h : K2 w fa ba W) (hb : Below W.heap.size W W') : K2 w fa ba W' := ⟨h.k1.step hb, (h.b.below hb).up hb.size⟩
structure K3 (w : World) (fa ba pa : Option Addr) (L : List NM) (W : World) : Prop where
  k2 : K2 w fa ba W
  p : Nodes W.heap.size W pa 9 (nodesL L)
  holds : ∀ k', holdsB 4 (ssM 1) 2 (bsK k') 9 (nodesL L) = true
theorem K3.step {w W W' : World} {fa ba pa : Option Addr} {L : List NM} (h : K3 w fa ba pa L W) (hb : Below W.heap.size W W') : K3 w fa ba pa L W' := ⟨h.k2.step hb, (h.p.below hb).up' hb.size, h.holds⟩
/-- the three images of the epochs, in the making -/
structure KT (s x y : Nat) (vx vy : Value) (W : World) : Prop where
  hs : W.heap[s]? = some (.cells #[.int .i64 0, .int .i64 9] 28)
  h1 : W.heap[s + 1]? = some (.cells #[.slice (some ⟨s, 0, none⟩) 1 1, .slice none 0 0] 50)
  hx : W.heap[x]? = some (.cells #[.slice (some ⟨s, 0, none⟩) 1 1, vx] 50)
  hy : W.heap[y]? = some (.cells #[.slice (some ⟨s, 0, none⟩) 1 1, vy] 50)
  ne : x ≠ y
  gx : s + 1 < x
  gy : s + 1 < y
theorem KT.step {s x y : Nat} {vx vy : Value} {W W' : World} (h : KT s x y vx vy W) (hb : Below W.heap.size W W') : KT s x y vx vy W' :=
  ⟨(hb.block _ (Array.getElem?_eq_some_iff.1 h.hs).1).trans h.hs, (hb.block _ (Array.getElem?_eq_some_iff.1 h.h1).1).trans h.h1, (hb.block _ (Array.getElem?_eq_some_iff.1 h.hx).1).trans h.hx, (hb.block _ (Array.getElem?_eq_some_iff.1 h.hy).1).trans h.hy, h.ne, h.gx, h.gy⟩
theorem KT.setx {s x y : Nat} {vx vy : Value} {W : World} (h : KT s x y vx vy W) (v : Value) : KT s x y v vy (W.setCell ⟨x, 1, none⟩ v) :=
  ⟨(heap_setCell_other W ⟨x, 1, none⟩ _ v (by have := h.gx; show s ≠ x; omega)).trans h.hs, (heap_setCell_other W ⟨x, 1, none⟩ _ v (by have := h.gx; show s + 1 ≠ x; omega)).trans h.h1, heap_setCell_same W x 1 _ _ _ h.hx, (heap_setCell_other W ⟨x, 1, none⟩ _ v (by have := h.ne; show y ≠ x; omega)).trans h.hy, h.ne, h.gx, h.gy⟩
theorem KT.sety {s x y : Nat} {vx vy : Value} {W : World} (h : KT s x y vx vy W) (v : Value) : KT s x y vx v (W.setCell ⟨y, 1, none⟩ v) :=
  ⟨(heap_setCell_other W ⟨y, 1, none⟩ _ v (by have := h.gy; show s ≠ y; omega)).trans h.hs, (heap_setCell_other W ⟨y, 1, none⟩ _ v (by have := h.gy; show s + 1 ≠ y; omega)).trans h.h1, (heap_setCell_other W ⟨y, 1, none⟩ _ v (by have := h.ne; show x ≠ y; omega)).trans h.hx, heap_setCell_same W y 1 _ _ _ h.hy, h.ne, h.gx, h.gy⟩
/-- a beam of one cell -/
structure KBm (z : Nat) (lo hi : Int) (W : World) : Prop where
  b0 : W.heap[z]? = some (.cells #[.int .i64 0] 3)
  b1 : W.heap[z + 1]? = some (.cells #[.int .i64 1] 3)
  b2 : W.heap[z + 1 + 1]? = some (.cells #[.slice (some ⟨z, 0, none⟩) 1 1, .slice (some ⟨z + 1, 0, none⟩) 1 1, .int .i64 lo, .int .i64 hi] 31)
theorem KBm.step {z : Nat} {lo hi : Int} {W W' : World} (h : KBm z lo hi W) (hb : Below W.heap.size W W') : KBm z lo hi W' :=
  ⟨(hb.block _ (Array.getElem?_eq_some_iff.1 h.b0).1).trans h.b0, (hb.block _ (Array.getElem?_eq_some_iff.1 h.b1).1).trans h.b1, (hb.block _ (Array.getElem?_eq_some_iff.1 h.b2).1).trans h.b2⟩
theorem KBm.set {z : Nat} {lo hi : Int} {W : World} (h : KBm z lo hi W) {y : Nat} (hy : y < z) (v : Value) : KBm z lo hi (W.setCell ⟨y, 1, none⟩ v) :=
  ⟨(heap_setCell_other W ⟨y, 1, none⟩ _ v (by show z ≠ y; omega)).trans h.b0, (heap_setCell_other W ⟨y, 1, none⟩ _ v (by show z + 1 ≠ y; omega)).trans h.b1, (heap_setCell_other W ⟨y, 1, none⟩ _ v (by show z + 1 + 1 ≠ y; omega)).trans h.b2⟩
theorem KBm.lt {z : Nat} {lo hi : Int} {W : World} (h : KBm z lo hi W) : z + 1 + 1 < W.heap.size := (Array.getElem?_eq_some_iff.1 h.b2).1
theorem ints1 {W : World} {b : Nat} {x : Int} {g : Nat → Int} (h : W.heap[b]? = some (.cells #[.int .i64 x] 3)) (h0 : g 0 = x) : Ints W.heap.size W (some ⟨b, 0, none⟩) 1 g := by
  refine .inr ⟨b, 0, rfl, (Array.getElem?_eq_some_iff.1 h).1, fun i hi => ?_⟩
  obtain rfl : i = 0 := by omega
  rw [h0]; exact cell_of_row _ b 0 _ _ _ h
theorem KBm.beams {z : Nat} {lo hi : Int} {W : World} (h : KBm z lo hi W) : Beams W.heap.size W (some ⟨z + 1 + 1, 0, none⟩) 1 (fun _ => ⟨some ⟨z, 0, none⟩, 1, 1, some ⟨z + 1, 0, none⟩, 1, 1, lo, hi, fun _ => 0, fun _ => 1⟩) := by
  refine ⟨by decide, .inr ⟨_, 0, rfl, h.lt, fun i hi => ?_⟩⟩
  have hc := fun j => cell_of_row _ _ j _ _ _ h.b2
  obtain rfl : i = 0 := by omega
  exact ⟨⟨hc 0, hc 1, hc 2, hc 3⟩, (show 1 ≤ maxLen by decide), (show 1 ≤ maxLen by decide), ints1 h.b0 rfl, ints1 h.b1 rfl⟩
/-- the images as they lie -/
abbrev imZ (s z z2 : Nat) : Nat → IM := imK (some ⟨s, 0, none⟩) 1 (some ⟨z + 1 + 1, 0, none⟩) (some ⟨z, 0, none⟩) (some ⟨z + 1, 0, none⟩) (some ⟨z2 + 1 + 1, 0, none⟩) (some ⟨z2, 0, none⟩) (some ⟨z2 + 1, 0, none⟩)
theorem KT.imgs {s x y z z2 q : Nat} {W : World} (h : KT s x y (.slice (some ⟨z + 1 + 1, 0, none⟩) 1 1) (.slice (some ⟨z2 + 1 + 1, 0, none⟩) 1 1) W) (h1 : KBm z 2 3 W) (h2 : KBm z2 8 8 W)
    (hq : W.heap[q]? = some (.cells #[.slice (some ⟨s, 0, none⟩) 1 1, .slice (some ⟨z + 1 + 1, 0, none⟩) 1 1, .slice (some ⟨s, 0, none⟩) 1 1, .slice none 0 0, .slice (some ⟨s, 0, none⟩) 1 1, .slice (some ⟨z2 + 1 + 1, 0, none⟩) 1 1] 50)) : Imgs W.heap.size W (some ⟨q, 0, none⟩) 3 (imZ s z z2) := by
  refine ⟨by decide, .inr ⟨q, 0, rfl, (Array.getElem?_eq_some_iff.1 hq).1, ?_⟩⟩
  have hc := fun j => cell_of_row _ _ j _ _ _ hq
  have hS : Spans W.heap.size W (some ⟨s, 0, none⟩) 1 (fun _ => ⟨0, 9⟩) := ⟨by decide, .inr ⟨s, 0, rfl, (Array.getElem?_eq_some_iff.1 h.hs).1, fun i hi => by
    obtain rfl : i = 0 := by omega
    exact ⟨cell_of_row _ _ 0 _ _ _ h.hs, cell_of_row _ _ 1 _ _ _ h.hs⟩⟩⟩
  exact below3 ⟨hc 0, hc 1, hS, h1.beams⟩ ⟨hc 2, hc 3, hS, ⟨Nat.zero_le _, .inl rfl⟩⟩ ⟨hc 4, hc 5, hS, h2.beams⟩
theorem K_epochs {s z z2 q : Nat} {W : World} (h : Imgs W.heap.size W (some ⟨q, 0, none⟩) 3 (imZ s z z2)) : Calls Tryz.prog 26 #[.slice (some ⟨q, 0, none⟩) 3 3, .int .i64 3] W fun e w' => (∃ eb sb, e = .returned (.tuple #[.slice (some ⟨eb, 0, none⟩) 3 3, .int .i64 0]) ∧ w'.cell? ⟨eb, 1, none⟩ = some (.slice (some ⟨sb, 0, none⟩) 1 1) ∧ Spans w'.heap.size w' (some ⟨sb, 0, none⟩) 1 (fun _ => ⟨5, 6⟩)) ∧ Below W.heap.size W w' :=
  (Epochs_ok _ 3 3 (imZ s z z2) 1 3 W W.heap.size (Nat.le_refl _) h (known_mov _ _ _ _ _ _ _ _) (by omega)).mono fun e w' hr => by
    obtain ⟨hb, hr⟩ := hr
    obtain ⟨k1, k2⟩ := known_hist (some ⟨s, 0, none⟩) 1 (some ⟨z + 1 + 1, 0, none⟩) (some ⟨z, 0, none⟩) (some ⟨z + 1, 0, none⟩) (some ⟨z2 + 1 + 1, 0, none⟩) (some ⟨z2, 0, none⟩) (some ⟨z2 + 1, 0, none⟩)
    rcases hr with ⟨_, eb, sbs, he, hc⟩ | ⟨⟨i, hi, h0⟩, _⟩
    · obtain ⟨h1, _, h3⟩ := hc 1 (by omega)
      refine ⟨⟨eb, sbs 1, he, h1, by decide, .inr ⟨sbs 1, 0, rfl, h3.lt, fun i hi => ?_⟩⟩, hb⟩
      obtain rfl : i = 0 := by omega
      have h4 := h3.cell (j := 0) (by omega)
      rw [k2] at h4
      exact h4
    · exact absurd h0 (k1 i hi)
theorem K_calm {s z z2 q : Nat} {W : World} (h : Imgs W.heap.size W (some ⟨q, 0, none⟩) 3 (imZ s z z2)) : Calls Tryz.prog 27 #[.slice (some ⟨q, 0, none⟩) 3 3] W fun e w' => e = .returned (.tuple #[.int .i64 3, .int .i64 0]) ∧ Below W.heap.size W w' :=
  (Calm_ok _ 3 3 (imZ s z z2) 1 W W.heap.size (Nat.le_refl _) h (known_mov _ _ _ _ _ _ _ _)).mono fun e w' hr => by
    have := known_calm (some ⟨s, 0, none⟩) 1 (some ⟨z + 1 + 1, 0, none⟩) (some ⟨z, 0, none⟩) (some ⟨z + 1, 0, none⟩) (some ⟨z2 + 1 + 1, 0, none⟩) (some ⟨z2, 0, none⟩) (some ⟨z2 + 1, 0, none⟩)
    rw [this] at hr
    exact hr
theorem K_same {W : World} {a : Option Addr} {b c d : Nat} (h1 : Ints W.heap.size W a 4 (fOf [2, 3, 0, 0])) (h2 : W.heap[b]? = some (.cells #[.int .i64 2, .int .i64 3, .int .i64 0, .int .i64 0] 3)) : Calls Tryz.prog 28 #[.slice a 4 c, .slice (some ⟨b, 0, none⟩) 4 d] W fun e w' => e = .returned (.bool true) ∧ Below W.heap.size W w' :=
  (Same_any a (some ⟨b, 0, none⟩) 4 4 c d (fOf [2, 3, 0, 0]) (fOf [2, 3, 0, 0]) W W.heap.size (Nat.le_refl _) h1 (.inr ⟨b, 0, rfl, (Array.getElem?_eq_some_iff.1 h2).1, fun i hi => by
    have hc := fun j => cell_of_row _ _ j _ _ _ h2
    rw [Nat.zero_add]
    by_cases e0 : i = 0
    · subst e0; exact hc 0
    by_cases e1 : i = 1
    · subst e1; exact hc 1
    by_cases e2 : i = 2
    · subst e2; exact hc 2
    obtain rfl : i = 3 := by omega
    exact hc 3⟩) (by decide) (by decide)).mono fun e w' hr => by
    rw [sameB_iff.2 ⟨rfl, fun i _ => rfl⟩] at hr
    exact hr
theorem K_spans4 {W : World} {a : Option Addr} {b c d : Nat} (h1 : Spans W.heap.size W a 4 spK) (h2 : W.heap[b]? = some (.cells #[.int .i64 2, .int .i64 3, .int .i64 2, .int .i64 3, .int .i64 0, .int .i64 0, .int .i64 0, .int .i64 4] 28)) : Calls Tryz.prog 29 #[.slice a 4 c, .slice (some ⟨b, 0, none⟩) 4 d] W fun e w' => e = .returned (.bool true) ∧ Below W.heap.size W w' :=
  (SameSpans_any a (some ⟨b, 0, none⟩) 4 4 c d spK spK W W.heap.size (Nat.le_refl _) h1 ⟨by decide, .inr ⟨b, 0, rfl, (Array.getElem?_eq_some_iff.1 h2).1, fun i hi => by
    have hc := fun j => cell_of_row _ _ j _ _ _ h2
    rw [Nat.zero_add]
    by_cases e0 : i = 0
    · subst e0; exact ⟨hc 0, hc 1⟩
    by_cases e1 : i = 1
    · subst e1; exact ⟨hc 2, hc 3⟩
    by_cases e2 : i = 2
    · subst e2; exact ⟨hc 4, hc 5⟩
    obtain rfl : i = 3 := by omega
    exact ⟨hc 6, hc 7⟩⟩⟩).mono fun e w' hr => by
    rw [sameSB_iff.2 ⟨rfl, fun i _ => ⟨rfl, rfl⟩⟩] at hr
    exact hr
theorem K_spans1 {W : World} {a : Option Addr} {b c d : Nat} (h1 : Spans W.heap.size W a 1 (fun _ => ⟨5, 6⟩)) (h2 : W.heap[b]? = some (.cells #[.int .i64 5, .int .i64 6] 28)) : Calls Tryz.prog 29 #[.slice a 1 c, .slice (some ⟨b, 0, none⟩) 1 d] W fun e w' => e = .returned (.bool true) ∧ Below W.heap.size W w' :=
  (SameSpans_any a (some ⟨b, 0, none⟩) 1 1 c d (fun _ => ⟨5, 6⟩) (fun _ => ⟨5, 6⟩) W W.heap.size (Nat.le_refl _) h1 ⟨by decide, .inr ⟨b, 0, rfl, (Array.getElem?_eq_some_iff.1 h2).1, fun i hi => by
    have hc := fun j => cell_of_row _ _ j _ _ _ h2
    obtain rfl : i = 0 := by omega
    exact ⟨hc 0, hc 1⟩⟩⟩).mono fun e w' hr => by
    rw [sameSB_iff.2 ⟨rfl, fun i _ => ⟨rfl, rfl⟩⟩] at hr
    exact hr
theorem K_node {W : World} {b : Nat} (h1 : W.heap[b]? = some (.cells #[.int .i64 (-1), .int .i64 1] 3)) (h2 : W.heap[b + 1]? = some (.cells #[.int .i64 (-1), .int .i64 0, .int .i64 0, .slice (some ⟨b, 0, none⟩) 2 2] 76)) : Nodes W.heap.size W (some ⟨b + 1, 0, none⟩) 1 (nodeK b) := by
  have hc := fun j => cell_of_row _ _ j _ _ _ h2
  refine .inr ⟨b + 1, 0, rfl, (Array.getElem?_eq_some_iff.1 h2).1, fun i hi => ?_⟩
  obtain rfl : i = 0 := by omega
  exact ⟨⟨hc 0, hc 1, hc 2, hc 3⟩, (show 2 ≤ maxLen by decide), ints2 h1 rfl rfl⟩
set_option maxRecDepth 100000 in
set_option maxHeartbeats 4000000 in
theorem known_any (w : World) (ht : Lib.TabIs Tryz.prog w "internal/strconv.uint64pow10" .u64 Lib.pow10Tab) :
    Calls Tryz.prog 5 #[] w fun e w' => e = .returned (.bool true) ∧ Below w.heap.size w w' := by
  have HW := Lib.hid (show KW w w from ⟨Below.refl _ _, Lib.tabBelow_of_tabIs ht⟩)
  clear ht
  go_enter Tryz.func5, Tryz.ntmps5
  go_upto_region 2 with (first | (go_at_call 20; refine (M_any _).mono ?_; rintro e wM ⟨rfl, hM, hbM⟩; have HM := Lib.hid hM; have HW1 := Lib.hid (HW.out.step hbM); clear HW hM hbM; have HW := HW1; clear HW1) | (go_at_call 19; refine (K_first HM.out).mono ?_; rintro e w1 ⟨⟨fa, fc, rfl, hI⟩, hb⟩; have HW1 := Lib.hid (show K1 w fa w1 from ⟨HW.out.step hb, hI⟩); clear HW hI HM hb; have HW := HW1; clear HW1))
  go_upto_region 3 with (first | (go_at_call 20; refine (M_any _).mono ?_; rintro e wM ⟨rfl, hM, hbM⟩; have HM := Lib.hid hM; have HW1 := Lib.hid (HW.out.step hbM); clear HW hM hbM; have HW := HW1; clear HW1) | (go_at_call 21; refine (K_count HM.out).mono ?_; rintro e w2 ⟨rfl, hb⟩; have HW1 := Lib.hid (HW.out.step hb); clear HW HM hb; have HW := HW1; clear HW1))
  go_upto_region 4 with (first | (go_at_call 20; refine (M_any _).mono ?_; rintro e wM ⟨rfl, hM, hbM⟩; have HM := Lib.hid hM; have HW1 := Lib.hid (HW.out.step hbM); clear HW hM hbM; have HW := HW1; clear HW1) | (go_at_call 22; refine (K_bounds HM.out).mono ?_; rintro e w3 ⟨⟨ob, rfl, hI⟩, hb⟩; have HW1 := Lib.hid (show K2 w fa (some ⟨ob, 0, none⟩) w3 from ⟨HW.out.step hb, hI⟩); clear HW HM hb hI; have HW := HW1; clear HW1))
  go_upto_region 5 with (first | (go_at_call 20; refine (M_any _).mono ?_; rintro e wM ⟨rfl, hM, hbM⟩; have HM := Lib.hid hM; have HW1 := Lib.hid (HW.out.step hbM); clear HW hM hbM; have HW := HW1; clear HW1) | (go_at_call 23; refine (K_print HM.out HW.out.k1.kw.tabIs).mono ?_; rintro e w4 ⟨rfl, hb⟩; have HW1 := Lib.hid (HW.out.step hb); clear HW HM hb; have HW := HW1; clear HW1))
  go_upto_region 6 with (first | (go_at_call 25; refine (N_any _).mono ?_; rintro e wM ⟨k, rfl, hM, _, hbM⟩; have HM := Lib.hid hM; have HW1 := Lib.hid (HW.out.step hbM); clear HW hM hbM; have HW := HW1; clear HW1) | (go_at_call 24; refine (K_refute HM.out).mono ?_; rintro e w5 ⟨⟨pa, pc, L, rfl, hn, hh⟩, hb⟩; have HW1 := Lib.hid (show K3 w fa (some ⟨ob, 0, none⟩) pa L w5 from ⟨HW.out.step hb, hn, hh⟩); clear HW HM hb hn hh; have HW := HW1; clear HW1))
  go_upto_region 7 with (fail)
  obtain ⟨hVb, hVz, e1, e2⟩ := two_allocs w5 (.cells #[.int .i64 0, .int .i64 9] 28) (.cells #[.slice (some ⟨w5.heap.size, 0, none⟩) 1 1, .slice none 0 0] 50)
  generalize World.alloc (World.alloc w5 _) _ = V at *
  generalize hs : w5.heap.size = s at *
  have HS := Lib.hid hs
  have HVB := Lib.hid hVb
  have HE := Lib.hid (And.intro e1 e2)
  have c0 := (cell_of_row _ _ 0 _ _ _ e2).trans (show _ = some (Value.slice (some ⟨s, 0, none⟩) 1 1) from rfl)
  have c1 := (cell_of_row _ _ 1 _ _ _ e2).trans (show _ = some (Value.slice none 0 0) from rfl)
  clear e1 e2 hs hVb
  go_cut [12, 13, 46, 47] from 154 (fun s12 s13 s46 s47 wx => ∃ x y, s12 = .pointer (some ⟨x, 0, none⟩) ∧ s13 = .pointer (some ⟨y, 0, none⟩) ∧ Hid (Below s w5 wx ∧ KT s x y (.slice none 0 0) (.slice none 0 0) wx))
  case first =>
    obtain ⟨hVb2, hVz2, e3, e4⟩ := two_allocs V (.cells #[.slice (some ⟨s, 0, none⟩) 1 1, .slice none 0 0] 50) (.cells #[.slice (some ⟨s, 0, none⟩) 1 1, .slice none 0 0] 50)
    rw [hVz] at e3 e4
    have hb3 : Below s w5 ((V.alloc (.cells #[.slice (some ⟨s, 0, none⟩) 1 1, .slice none 0 0] 50)).alloc (.cells #[.slice (some ⟨s, 0, none⟩) 1 1, .slice none 0 0] 50)).drew := (HVB.out.trans (hVb2.mono (by omega))).drew
    have HKA := Lib.hid (show Below s w5 ((V.alloc (.cells #[.slice (some ⟨s, 0, none⟩) 1 1, .slice none 0 0] 50)).alloc (.cells #[.slice (some ⟨s, 0, none⟩) 1 1, .slice none 0 0] 50)).drew ∧ KT s (s + 1 + 1) (s + 1 + 1 + 1) (.slice none 0 0) (.slice none 0 0) ((V.alloc (.cells #[.slice (some ⟨s, 0, none⟩) 1 1, .slice none 0 0] 50)).alloc (.cells #[.slice (some ⟨s, 0, none⟩) 1 1, .slice none 0 0] 50)).drew from
      ⟨hb3, ⟨(hVb2.block s (by omega)).trans HE.out.1, (hVb2.block (s + 1) (by omega)).trans HE.out.2, e3, e4, by omega, by omega, by omega⟩⟩)
    have HKB := Lib.hid (show Below s w5 ((V.alloc (.cells #[.slice (some ⟨s, 0, none⟩) 1 1, .slice none 0 0] 50)).alloc (.cells #[.slice (some ⟨s, 0, none⟩) 1 1, .slice none 0 0] 50)).drew ∧ KT s (s + 1 + 1 + 1) (s + 1 + 1) (.slice none 0 0) (.slice none 0 0) ((V.alloc (.cells #[.slice (some ⟨s, 0, none⟩) 1 1, .slice none 0 0] 50)).alloc (.cells #[.slice (some ⟨s, 0, none⟩) 1 1, .slice none 0 0] 50)).drew from
      ⟨hb3, ⟨(hVb2.block s (by omega)).trans HE.out.1, (hVb2.block (s + 1) (by omega)).trans HE.out.2, e4, e3, by omega, by omega, by omega⟩⟩)
    clear HE hVb2 hVz2 e3 e4 hb3
    go_region
    · go_wp2
      go_meet
      exact ⟨_, _, rfl, rfl, HKA⟩
    · go_wp2
      go_meet
      exact ⟨_, _, rfl, rfl, HKB⟩
  case rest =>
    obtain ⟨x, y, rfl, rfl, HC⟩ := hcut
    have HB := Lib.hid HC.out.1
    have HT := Lib.hid HC.out.2
    clear HC HE c0 c1 hVz HVB V
    have x0 := (cell_of_row _ _ 1 _ _ _ HT.out.hx).trans (show _ = some (Value.slice none 0 0) from rfl)
    have x1 := frozen_of_row _ _ 1 _ _ HT.out.hx
    have hxz := (Array.getElem?_eq_some_iff.1 HT.out.hx).1
    have hyz := (Array.getElem?_eq_some_iff.1 HT.out.hy).1
    have hgx := HT.out.gx
    have hgy := HT.out.gy
    have lx1 : x < wc.heap.size + 1 := by omega
    have lx2 : x < wc.heap.size + 1 + 1 := by omega
    have lx3 : x < wc.heap.size + 1 + 1 + 1 := by omega
    go_upto_region 9 with (fail)
    obtain ⟨vb, vz, e1, e2, e3⟩ := three_allocs (wc.setCell ⟨x, 1, none⟩ (.slice (some ⟨wc.heap.size + 1 + 1, 0, none⟩) 1 1)) (.cells #[.int .i64 0] 3) (.cells #[.int .i64 1] 3) (.cells #[.slice (some ⟨wc.heap.size, 0, none⟩) 1 1, .slice (some ⟨wc.heap.size + 1, 0, none⟩) 1 1, .int .i64 2, .int .i64 3] 31)
    have hzs : (wc.setCell ⟨x, 1, none⟩ (.slice (some ⟨wc.heap.size + 1 + 1, 0, none⟩) 1 1)).heap.size = wc.heap.size := by simp
    rw [hzs] at e1 e2 e3 vz
    have HT2 := Lib.hid ((HT.out.setx (.slice (some ⟨wc.heap.size + 1 + 1, 0, none⟩) 1 1)).step vb)
    have HB2 := Lib.hid ((HB.out.setCell (p := ⟨x, 1, none⟩) (by show s ≤ x; omega) (.slice (some ⟨wc.heap.size + 1 + 1, 0, none⟩) 1 1)).trans (vb.mono (by omega)))
    have HM1 := Lib.hid (show KBm wc.heap.size 2 3 _ from ⟨e1, e2, e3⟩)
    clear HT HB x0 x1 lx1 lx2 lx3 hxz vb hzs e1 e2 e3
    generalize World.alloc (World.alloc (World.alloc (World.setCell wc _ _) _) _) _ = V8 at *
    generalize wc.heap.size = z at *
    have y0 := (cell_of_row _ _ 1 _ _ _ HT2.out.hy).trans (show _ = some (Value.slice none 0 0) from rfl)
    have y1 := frozen_of_row _ _ 1 _ _ HT2.out.hy
    have ly0 : y < V8.heap.size := by omega
    have HVZ := Lib.hid vz
    have hyz0 : y < z := hyz
    clear vz hyz
    have ly1 : y < V8.heap.size + 1 := by omega
    have ly2 : y < V8.heap.size + 1 + 1 := by omega
    have ly3 : y < V8.heap.size + 1 + 1 + 1 := by omega
    go_upto_region 10 with (fail)
    obtain ⟨vb, vz, e1, e2, e3⟩ := three_allocs (V8.setCell ⟨y, 1, none⟩ (.slice (some ⟨V8.heap.size + 1 + 1, 0, none⟩) 1 1)) (.cells #[.int .i64 0] 3) (.cells #[.int .i64 1] 3) (.cells #[.slice (some ⟨V8.heap.size, 0, none⟩) 1 1, .slice (some ⟨V8.heap.size + 1, 0, none⟩) 1 1, .int .i64 8, .int .i64 8] 31)
    have hzs : (V8.setCell ⟨y, 1, none⟩ (.slice (some ⟨V8.heap.size + 1 + 1, 0, none⟩) 1 1)).heap.size = V8.heap.size := by simp
    rw [hzs] at e1 e2 e3 vz
    have HT3 := Lib.hid ((HT2.out.sety (.slice (some ⟨V8.heap.size + 1 + 1, 0, none⟩) 1 1)).step vb)
    have HB3 := Lib.hid ((HB2.out.setCell (p := ⟨y, 1, none⟩) (by show s ≤ y; omega) (.slice (some ⟨V8.heap.size + 1 + 1, 0, none⟩) 1 1)).trans (vb.mono (by omega)))
    have HM1b := Lib.hid ((HM1.out.set hyz0 (.slice (some ⟨V8.heap.size + 1 + 1, 0, none⟩) 1 1)).step vb)
    have HM2 := Lib.hid (show KBm V8.heap.size 8 8 _ from ⟨e1, e2, e3⟩)
    have hsV : s ≤ V8.heap.size := by omega
    clear HT2 HB2 HM1 y0 y1 ly0 ly1 ly2 ly3 vb hzs e1 e2 e3 HVZ hyz0
    generalize World.alloc (World.alloc (World.alloc (World.setCell V8 _ _) _) _) _ = V9 at *
    generalize V8.heap.size = z2 at *
    have HVZ := Lib.hid vz
    clear vz hgx hgy
    have hcx := fun j => cell_of_row _ _ j _ _ _ HT3.out.hx
    have a0 := (hcx 0).trans (show _ = some (Value.slice (some ⟨s, 0, none⟩) 1 1) from rfl)
    have a1 := (hcx 1).trans (show _ = some (Value.slice (some ⟨z + 1 + 1, 0, none⟩) 1 1) from rfl)
    have hc1 := fun j => cell_of_row _ _ j _ _ _ HT3.out.h1
    have b0 := (hc1 0).trans (show _ = some (Value.slice (some ⟨s, 0, none⟩) 1 1) from rfl)
    have b1 := (hc1 1).trans (show _ = some (Value.slice none 0 0) from rfl)
    have hcy := fun j => cell_of_row _ _ j _ _ _ HT3.out.hy
    have d0 := (hcy 0).trans (show _ = some (Value.slice (some ⟨s, 0, none⟩) 1 1) from rfl)
    have d1 := (hcy 1).trans (show _ = some (Value.slice (some ⟨z2 + 1 + 1, 0, none⟩) 1 1) from rfl)
    clear hcx hc1 hcy
    have HQ := Lib.hid (heap_alloc_new V9 (.cells #[.slice (some ⟨s, 0, none⟩) 1 1, .slice (some ⟨z + 1 + 1, 0, none⟩) 1 1, .slice (some ⟨s, 0, none⟩) 1 1, .slice none 0 0, .slice (some ⟨s, 0, none⟩) 1 1, .slice (some ⟨z2 + 1 + 1, 0, none⟩) 1 1] 50))
    have HVA := Lib.hid (alloc_below V9 (.cells #[.slice (some ⟨s, 0, none⟩) 1 1, .slice (some ⟨z + 1 + 1, 0, none⟩) 1 1, .slice (some ⟨s, 0, none⟩) 1 1, .slice none 0 0, .slice (some ⟨s, 0, none⟩) 1 1, .slice (some ⟨z2 + 1 + 1, 0, none⟩) 1 1] 50))
    have HIM := Lib.hid ((HT3.out.step HVA.out).imgs (HM1b.out.step HVA.out) (HM2.out.step HVA.out) HQ.out)
    have HKE := Lib.hid (K_epochs HIM.out)
    have hz9 : s ≤ V9.heap.size := by have := HVZ.out; omega
    clear HIM HQ
    go_upto_region 11 with (go_at_call 26; refine HKE.out.mono ?_; rintro e w6 ⟨⟨eb, sb, rfl, hce, hsp⟩, hb6⟩)
    have HB6 := Lib.hid (HB3.out.trans (((HVA.out.trans (hb6.mono HVA.out.size))).mono hz9))
    have HT6 := Lib.hid ((HT3.out.step HVA.out).step hb6)
    have HMa := Lib.hid ((HM1b.out.step HVA.out).step hb6)
    have HMb := Lib.hid ((HM2.out.step HVA.out).step hb6)
    have hz6 : s ≤ w6.heap.size := by have := hb6.size; have := HVA.out.size; omega
    clear HB3 HT3 HM1b HM2 HVA HKE hb6 a0 a1 b0 b1 d0 d1 HVZ hsV hz9
    have hcx := fun j => cell_of_row _ _ j _ _ _ HT6.out.hx
    have a0 := (hcx 0).trans (show _ = some (Value.slice (some ⟨s, 0, none⟩) 1 1) from rfl)
    have a1 := (hcx 1).trans (show _ = some (Value.slice (some ⟨z + 1 + 1, 0, none⟩) 1 1) from rfl)
    have hc1 := fun j => cell_of_row _ _ j _ _ _ HT6.out.h1
    have b0 := (hc1 0).trans (show _ = some (Value.slice (some ⟨s, 0, none⟩) 1 1) from rfl)
    have b1 := (hc1 1).trans (show _ = some (Value.slice none 0 0) from rfl)
    have hcy := fun j => cell_of_row _ _ j _ _ _ HT6.out.hy
    have d0 := (hcy 0).trans (show _ = some (Value.slice (some ⟨s, 0, none⟩) 1 1) from rfl)
    have d1 := (hcy 1).trans (show _ = some (Value.slice (some ⟨z2 + 1 + 1, 0, none⟩) 1 1) from rfl)
    clear hcx hc1 hcy
    have HQ := Lib.hid (heap_alloc_new w6 (.cells #[.slice (some ⟨s, 0, none⟩) 1 1, .slice (some ⟨z + 1 + 1, 0, none⟩) 1 1, .slice (some ⟨s, 0, none⟩) 1 1, .slice none 0 0, .slice (some ⟨s, 0, none⟩) 1 1, .slice (some ⟨z2 + 1 + 1, 0, none⟩) 1 1] 50))
    have HVA := Lib.hid (alloc_below w6 (.cells #[.slice (some ⟨s, 0, none⟩) 1 1, .slice (some ⟨z + 1 + 1, 0, none⟩) 1 1, .slice (some ⟨s, 0, none⟩) 1 1, .slice none 0 0, .slice (some ⟨s, 0, none⟩) 1 1, .slice (some ⟨z2 + 1 + 1, 0, none⟩) 1 1] 50))
    have HKE := Lib.hid (K_calm ((HT6.out.step HVA.out).imgs (HMa.out.step HVA.out) (HMb.out.step HVA.out) HQ.out))
    have HSP := Lib.hid (And.intro hce hsp)
    clear HQ hce hsp
    go_upto_region 14 with (go_at_call 27; refine HKE.out.mono ?_; rintro e w7 ⟨rfl, hb7⟩; have HB7 := Lib.hid (HB6.out.trans (((HVA.out.trans (hb7.mono HVA.out.size))).mono hz6)); have hz7 : s ≤ w7.heap.size := (by have := hb7.size; have := HVA.out.size; omega); have HE7 := Lib.hid (show Below w6.heap.size w6 w7 from HVA.out.trans (hb7.mono HVA.out.size)); clear hb7 a0 a1 b0 b1 d0 d1 HT6 HMa HMb HVA HB6 HKE)
    have HK := Lib.hid (fun (W : World) (hb : Below s w5 W) => HW.out.step (show Below w5.heap.size w5 W from by rw [HS.out]; exact hb))
    have HWS := Lib.hid (show Below w.heap.size w w5 ∧ w.heap.size ≤ s from ⟨HW.out.k2.k1.kw.below, by have := HW.out.k2.k1.kw.below.size; have := HS.out; omega⟩)
    clear HW
    have m2 : True := trivial
    have m3 : True := trivial
    have m4 : True := trivial
    have m5 : True := trivial
    obtain ⟨st, hst⟩ : ∃ st, Value.string st = Value.string ⟨#[50, 45, 51, 32, 50, 45, 51, 10, 48, 32, 63, 10]⟩ := ⟨_, rfl⟩
    simp only [← hst]
    clear hst
    go_wp2_with (first | (go_at_call 28; refine (K_same (HK.out (w7.alloc (.cells #[.int .i64 2, .int .i64 3, .int .i64 0, .int .i64 0] 3)) (HB7.out.trans ((alloc_below w7 _).mono hz7))).k2.k1.f (heap_alloc_new w7 _)).mono ?_; rintro e w8 ⟨rfl, hb8⟩; have HB8 := Lib.hid ((HB7.out.trans ((alloc_below w7 (.cells #[.int .i64 2, .int .i64 3, .int .i64 0, .int .i64 0] 3)).mono hz7)).trans (hb8.mono (by simp; omega))); have hz8 : s ≤ w8.heap.size := (by have := hb8.size; simp at this; omega); have HE8 := Lib.hid (HE7.out.trans (((alloc_below w7 (.cells #[.int .i64 2, .int .i64 3, .int .i64 0, .int .i64 0] 3)).trans (hb8.mono (by simp))).mono HE7.out.size)); clear hb8) | (go_at_call 29; have _ := m2; clear m2; refine (K_spans4 (HK.out (w8.alloc (.cells #[.int .i64 2, .int .i64 3, .int .i64 2, .int .i64 3, .int .i64 0, .int .i64 0, .int .i64 0, .int .i64 4] 28)) (HB8.out.trans ((alloc_below w8 _).mono hz8))).k2.b (heap_alloc_new w8 _)).mono ?_; rintro e w9 ⟨rfl, hb9⟩; have HB9 := Lib.hid ((HB8.out.trans ((alloc_below w8 (.cells #[.int .i64 2, .int .i64 3, .int .i64 2, .int .i64 3, .int .i64 0, .int .i64 0, .int .i64 0, .int .i64 4] 28)).mono hz8)).trans (hb9.mono (by simp; omega))); have hz9 : s ≤ w9.heap.size := (by have := hb9.size; simp at this; omega); have HE9 := Lib.hid (HE8.out.trans (((alloc_below w8 (.cells #[.int .i64 2, .int .i64 3, .int .i64 2, .int .i64 3, .int .i64 0, .int .i64 0, .int .i64 0, .int .i64 4] 28)).trans (hb9.mono (by simp))).mono HE8.out.size)); clear hb9; have e9 := ((bcell HE9.out).1 eb 1 (World.block_lt_of_cell? _ _ HSP.out.1)).trans HSP.out.1) | (go_at_call 29; refine (K_spans1 ((HSP.out.2.below (HE9.out.trans ((alloc_below w9 (.cells #[.int .i64 5, .int .i64 6] 28)).mono HE9.out.size))).up (Nat.le_trans HE9.out.size (alloc_below w9 (.cells #[.int .i64 5, .int .i64 6] 28)).size)) (heap_alloc_new w9 _)).mono ?_; rintro e w10 ⟨rfl, hb10⟩; have HB10 := Lib.hid ((HB9.out.trans ((alloc_below w9 (.cells #[.int .i64 5, .int .i64 6] 28)).mono hz9)).trans (hb10.mono (by simp; omega))); have hz10 : s ≤ w10.heap.size := (by have := hb10.size; simp at this; omega); have HE10 := Lib.hid (HE9.out.trans (((alloc_below w9 (.cells #[.int .i64 5, .int .i64 6] 28)).trans (hb10.mono (by simp))).mono HE9.out.size)); clear hb10) | (go_at_call 25; have _ := m4; clear m4; refine (N_any w10).mono ?_; rintro e w11 ⟨k1, rfl, hM, _, hb11⟩; have HM := Lib.hid hM; have HB11 := Lib.hid (HB10.out.trans (hb11.mono hz10)); have hz11 : s ≤ w11.heap.size := (by have := hb11.size; omega); clear hM hb11) | (go_at_call 30; have _ := m5; clear m5; refine (K_holds HM.out (HK.out w11 HB11.out).p (by decide) ((HK.out w11 HB11.out).holds k1)).mono ?_; rintro e w12 ⟨rfl, hb12⟩; have HB12 := Lib.hid (HB11.out.trans (hb12.mono hz11)); have hz12 : s ≤ w12.heap.size := (by have := hb12.size; omega); clear HM hb12) | (go_at_call 25; refine (N_any w12).mono ?_; rintro e w13 ⟨k2, rfl, hM, _, hb13⟩; have HM := Lib.hid hM; have HB13 := Lib.hid (HB12.out.trans (hb13.mono hz12)); have hz13 : s ≤ w13.heap.size := (by have := hb13.size; omega); clear hM hb13) | (go_at_call 30; refine (K_holds (HM.out.step (two_allocs w13 _ _).1) (K_node (two_allocs w13 _ _).2.2.1 (two_allocs w13 _ _).2.2.2) (by decide) (K_one k2 _)).mono ?_; rintro e w14 ⟨rfl, hb14⟩; have HB14 := Lib.hid ((HB13.out.trans ((two_allocs w13 _ _).1.mono hz13)).trans (hb14.mono (by simp; omega))); clear HM hb14))
    go_ret
    exact ⟨rfl, HWS.out.1.trans (HB14.out.mono HWS.out.2)⟩
end Go.Proofs.YtkdopjkdokgipaaGreatDoor
