/- Texts put together: RefOrd, ImKnow. -/
import Derived.Test.YtkdopjkdokgipaaGreatDoorProg
import Derived.Test.YtkdopjkdokgipaaGreatDoorImData
import Derived.Test.YtkdopjkdokgipaaGreatDoorGoA
import Derived.Test.YtkdopjkdokgipaaGreatDoorImEpochs
namespace Go.Proofs.YtkdopjkdokgipaaGreatDoor
open Go.RowKit
set_option linter.unusedVariables false
set_option linter.unusedSimpArgs false
/-- what Order tells -/
def OrdIs (n m : Nat) (f g : Nat → Int) (r : Int) : Prop :=
  ∃ k, (∀ i, i < k → f i = g i) ∧ ((k < n ∧ k < m ∧ ((f k < g k ∧ r = -1) ∨ (g k < f k ∧ r = 1))) ∨ (k = min n m ∧ ((n < m ∧ r = -1) ∨ (m < n ∧ r = 1) ∨ (n = m ∧ r = 0))))
def sameB (n m : Nat) (f g : Nat → Int) : Bool := (n == m) && allUpto n (fun i => f i == g i)
theorem sameB_iff {n m : Nat} {f g : Nat → Int} : sameB n m f g = true ↔ n = m ∧ ∀ i, i < n → f i = g i := by simp [sameB, allUpto_iff]
theorem OrdIs.same {n m : Nat} {f g : Nat → Int} {r : Int} (h : OrdIs n m f g r) : (r == 0) = sameB n m f g := by
  obtain ⟨k, h1, h2⟩ := h
  rcases h2 with ⟨h3, h4, h5⟩ | ⟨h3, h4⟩
  · have hn : sameB n m f g = false := by
      cases e : sameB n m f g
      · rfl
      · have := (sameB_iff.1 e).2 k h3
        omega
    rw [hn]
    rcases h5 with h5 | h5 <;> (rw [h5.2]; rfl)
  · rcases h4 with h4 | h4 | h4
    · rw [h4.2]
      symm
      cases e : sameB n m f g
      · rfl
      · have := (sameB_iff.1 e).1; omega
    · rw [h4.2]
      symm
      cases e : sameB n m f g
      · rfl
      · have := (sameB_iff.1 e).1; omega
    · rw [h4.2]
      symm
      exact sameB_iff.2 ⟨h4.1, fun i hi => h1 i (by omega)⟩
set_option maxRecDepth 100000 in
set_option maxHeartbeats 1000000 in
theorem Order_any (a b : Option Addr) (n m c d : Nat) (f g : Nat → Int) (w : World) (B : Nat) (hBw : B ≤ w.heap.size) (hf : Ints B w a n f) (hg : Ints B w b m g) (hn : n ≤ maxLen) (hm : m ≤ maxLen) :
    Calls Tryz.prog 71 #[.slice a n c, .slice b m d] w fun e w' => (∃ r, e = .returned (.int .i64 r) ∧ OrdIs n m f g r) ∧ Below w.heap.size w w' := by
  unfold maxLen at hn hm
  have HFa := Lib.hid hf
  have HGa := Lib.hid hg
  have HR := Lib.hid (fun (r : Int) (w' : World) (h : OrdIs n m f g r) (hb : Below w.heap.size w w') => show (∃ r', Ending.returned (.int .i64 r) = .returned (.int .i64 r') ∧ OrdIs n m f g r') ∧ Below w.heap.size w w' from ⟨⟨r, rfl, h⟩, hb⟩)
  clear hf hg
  go_enter Tryz.func71, Tryz.ntmps71
  go_wp2
  go_loopw [5] (fun t wr => ∃ k : Nat, k ≤ n ∧ k ≤ m ∧ t = .int .i64 k ∧ Hid ((∀ j, j < k → f j = g j) ∧ Below w.heap.size w wr)) (fun t _ => n - (intOf t).toNat)
  case atStart => exact ⟨0, Nat.zero_le _, Nat.zero_le _, rfl, Lib.hid ⟨fun j h => by omega, Below.refl _ _⟩⟩
  case round =>
    obtain ⟨k, hk, hk2, rfl, HH⟩ := hrel
    have hzz := HH.out.2.size
    by_cases hlt : k < n
    · have hlt' : (k : Int) < (n : Int) := by omega
      by_cases hlt2 : k < m
      · have hlt2' : (k : Int) < (m : Int) := by omega
        obtain ⟨b1, o1, rfl, l1, c0⟩ := HFa.out.get hlt
        obtain ⟨b2, o2, rfl, l2, d0⟩ := HGa.out.get hlt2
        have l1' : b1 < w.heap.size := by omega
        have l2' : b2 < w.heap.size := by omega
        have c1 := ((bcell HH.out.2).1 _ _ l1').trans c0
        have d1 := ((bcell HH.out.2).1 _ _ l2').trans d0
        clear c0 d0
        have l3 : b1 < wr.heap.size := by omega
        have l4 : b2 < wr.heap.size := by omega
        by_cases h1 : f k < g k
        · have HE := Lib.hid (show OrdIs n m f g (-1) from ⟨k, HH.out.1, .inl ⟨hlt, hlt2, .inl ⟨h1, rfl⟩⟩⟩)
          generalize f k = x at *
          generalize g k = y at *
          go_upto_region 4 with (fail)
          (refine wp_region_calm (wr.heap.size) (by kernel_rfl) (by kernel_rfl) ?_; (repeat (first | go_big_quiet_step (fail) | quiet_step (fail))); refine wpQuiet_nil ?_; intro _ hw'; obtain ⟨xq, hw''⟩ := hw'; subst hw'')
          go_wp2
          go_ret
          exact HR.out _ _ HE.out (HH.out.2.trans ((Calm.below _).mono hzz))
        · by_cases h2 : g k < f k
          · have HE := Lib.hid (show OrdIs n m f g 1 from ⟨k, HH.out.1, .inl ⟨hlt, hlt2, .inr ⟨h2, rfl⟩⟩⟩)
            generalize f k = x at *
            generalize g k = y at *
            go_upto_region 4 with (fail)
            (refine wp_region_calm (wr.heap.size) (by kernel_rfl) (by kernel_rfl) ?_; (repeat (first | go_big_quiet_step (fail) | quiet_step (fail))); refine wpQuiet_nil ?_; intro _ hw'; obtain ⟨xq, hw''⟩ := hw'; subst hw'')
            have HBq := Lib.hid (Calm.below xq)
            have hzq := HBq.out.size
            have c2 := ((bcell HBq.out).1 _ _ l3).trans c1
            have d2 := ((bcell HBq.out).1 _ _ l4).trans d1
            clear c1 d1
            generalize Calm.val xq = V at *
            have l5 : b1 < V.heap.size := by omega
            have l6 : b2 < V.heap.size := by omega
            go_upto_region 6 with (fail)
            (refine wp_region_calm (V.heap.size) (by kernel_rfl) (by kernel_rfl) ?_; (repeat (first | go_big_quiet_step (fail) | quiet_step (fail))); refine wpQuiet_nil ?_; intro _ hw'; obtain ⟨xq, hw''⟩ := hw'; subst hw'')
            go_wp2
            go_ret
            exact HR.out _ _ HE.out (HH.out.2.trans ((HBq.out.mono hzz).trans ((Calm.below _).mono (by omega))))
          · have HE := Lib.hid (show ∀ j, j < k + 1 → f j = g j from fun j hj => by (by_cases e : j = k; (subst e; omega); exact HH.out.1 j (by omega)))
            generalize f k = x at *
            generalize g k = y at *
            go_upto_region 4 with (fail)
            (refine wp_region_calm (wr.heap.size) (by kernel_rfl) (by kernel_rfl) ?_; (repeat (first | go_big_quiet_step (fail) | quiet_step (fail))); refine wpQuiet_nil ?_; intro _ hw'; obtain ⟨xq, hw''⟩ := hw'; subst hw'')
            have HBq := Lib.hid (Calm.below xq)
            have hzq := HBq.out.size
            have c2 := ((bcell HBq.out).1 _ _ l3).trans c1
            have d2 := ((bcell HBq.out).1 _ _ l4).trans d1
            clear c1 d1
            generalize Calm.val xq = V at *
            have l5 : b1 < V.heap.size := by omega
            have l6 : b2 < V.heap.size := by omega
            go_upto_region 6 with (fail)
            (refine wp_region_calm (V.heap.size) (by kernel_rfl) (by kernel_rfl) ?_; (repeat (first | go_big_quiet_step (fail) | quiet_step (fail))); refine wpQuiet_nil ?_; intro _ hw'; obtain ⟨xq, hw''⟩ := hw'; subst hw'')
            go_wp2
            go_roundw
            case rel => exact ⟨k + 1, by omega, by omega, by go_num, Lib.hid ⟨HE.out, HH.out.2.trans ((HBq.out.mono hzz).trans ((Calm.below _).mono (by omega)))⟩⟩
            case measure => simp [intOf]; omega
      · obtain rfl : m = k := by omega
        have hlt2' : ¬ (m : Int) < (m : Int) := by omega
        have hnm : ¬ (n : Int) < (m : Int) := by omega
        have HE := Lib.hid (show OrdIs n m f g 1 from ⟨m, HH.out.1, .inr ⟨by omega, .inr (.inl ⟨by omega, rfl⟩)⟩⟩)
        go_wp2
        go_ret
        exact HR.out _ _ HE.out HH.out.2
    · obtain rfl : n = k := by omega
      have hlt' : ¬ (n : Int) < (n : Int) := by omega
      by_cases hl : n < m
      · have hl' : (n : Int) < (m : Int) := by omega
        have HE := Lib.hid (show OrdIs n m f g (-1) from ⟨n, HH.out.1, .inr ⟨by omega, .inl ⟨hl, rfl⟩⟩⟩)
        go_wp2
        go_ret
        exact HR.out _ _ HE.out HH.out.2
      · obtain rfl : n = m := by omega
        have HE := Lib.hid (show OrdIs n n f g 0 from ⟨n, HH.out.1, .inr ⟨by omega, .inr (.inr ⟨rfl, rfl⟩)⟩⟩)
        go_wp2
        go_ret
        exact HR.out _ _ HE.out HH.out.2
set_option maxRecDepth 100000 in
set_option maxHeartbeats 1000000 in
theorem Same_any (a b : Option Addr) (n m c d : Nat) (f g : Nat → Int) (w : World) (B : Nat) (hBw : B ≤ w.heap.size) (hf : Ints B w a n f) (hg : Ints B w b m g) (hn : n ≤ maxLen) (hm : m ≤ maxLen) :
    Calls Tryz.prog 28 #[.slice a n c, .slice b m d] w fun e w' => e = .returned (.bool (sameB n m f g)) ∧ Below w.heap.size w w' := by
  have HO := Lib.hid (Order_any a b n m c d f g w B hBw hf hg hn hm)
  clear hf hg
  go_enter Tryz.func28, Tryz.ntmps28
  go_wp2_with (go_at_call 71; refine HO.out.mono ?_; rintro e w2 ⟨⟨r, rfl, hr⟩, hb⟩; have HE := Lib.hid hr.same; clear hr)
  go_ret
  exact ⟨ret_bool HE.out, hb⟩
def sameSB (n m : Nat) (f g : Nat → SV) : Bool := (n == m) && allUpto n (fun i => ((f i).lo == (g i).lo) && ((f i).hi == (g i).hi))
theorem sameSB_iff {n m : Nat} {f g : Nat → SV} : sameSB n m f g = true ↔ n = m ∧ ∀ i, i < n → (f i).lo = (g i).lo ∧ (f i).hi = (g i).hi := by simp [sameSB, allUpto_iff]
set_option maxRecDepth 100000 in
set_option maxHeartbeats 1000000 in
theorem SameSpans_any (a b : Option Addr) (n m c d : Nat) (f g : Nat → SV) (w : World) (B : Nat) (hBw : B ≤ w.heap.size) (hf : Spans B w a n f) (hg : Spans B w b m g) :
    Calls Tryz.prog 29 #[.slice a n c, .slice b m d] w fun e w' => e = .returned (.bool (sameSB n m f g)) ∧ Below w.heap.size w w' := by
  have hn := hf.1
  have hm := hg.1
  unfold maxLen at hn hm
  have HFa := Lib.hid hf
  have HGa := Lib.hid hg
  clear hf hg
  have HNO := Lib.hid (fun (i : Nat) (hi : i < n) (hne : ¬ ((f i).lo = (g i).lo ∧ (f i).hi = (g i).hi)) => show sameSB n m f g = false from by
    cases e : sameSB n m f g
    · rfl
    · exact absurd ((sameSB_iff.1 e).2 i hi) hne)
  have HYES := Lib.hid (fun (e : n = m) (h : ∀ i, i < n → (f i).lo = (g i).lo ∧ (f i).hi = (g i).hi) => sameSB_iff.2 ⟨e, h⟩)
  by_cases hl : n = m
  case neg =>
    have HE := Lib.hid (show sameSB n m f g = false from by
      cases e : sameSB n m f g
      · rfl
      · exact absurd (sameSB_iff.1 e).1 hl)
    have h1 : ((n : Int) != m) = true := by simp; omega
    clear hl
    generalize sameSB n m f g = RB at *
    go_enter Tryz.func29, Tryz.ntmps29
    go_wp2
    go_ret
    exact ⟨ret_bool HE.out.symm, Below.refl _ _⟩
  subst hl
  generalize sameSB n n f g = RB at *
  go_enter Tryz.func29, Tryz.ntmps29
  go_wp2
  go_loopw [5] (fun t wr => ∃ k : Nat, k ≤ n ∧ t = .int .i64 k ∧ Hid ((∀ j, j < k → (f j).lo = (g j).lo ∧ (f j).hi = (g j).hi) ∧ Below w.heap.size w wr)) (fun t _ => n - (intOf t).toNat)
  case atStart => exact ⟨0, Nat.zero_le _, rfl, Lib.hid ⟨fun j h => by omega, Below.refl _ _⟩⟩
  case round =>
    obtain ⟨k, hk, rfl, HH⟩ := hrel
    have hzz := HH.out.2.size
    by_cases hlt : k < n
    · have hlt' : (k : Int) < (n : Int) := by omega
      obtain ⟨b1, o1, rfl, l1, c0, c1⟩ := HFa.out.get hlt
      obtain ⟨b2, o2, rfl, l2, d0, d1⟩ := HGa.out.get hlt
      have l1' : b1 < w.heap.size := by omega
      have l2' : b2 < w.heap.size := by omega
      obtain ⟨hc, hf⟩ := bcell HH.out.2
      by_cases x1 : (f k).lo = (g k).lo
      · by_cases x2 : (f k).hi = (g k).hi
        · have HE := Lib.hid (show ∀ j, j < k + 1 → (f j).lo = (g j).lo ∧ (f j).hi = (g j).hi from fun j hj => by (by_cases e : j = k; (subst e; exact ⟨x1, x2⟩); exact HH.out.1 j (by omega)))
          rw [x1] at c0
          rw [x2] at c1
          clear x1 x2
          go_wp2_with fail
          go_quiet (fail)
          go_wp2
          go_roundw
          case rel => exact ⟨k + 1, by omega, by go_num, Lib.hid ⟨HE.out, below_drewN HH.out.2 _⟩⟩
          case measure => simp [intOf]; omega
        · have HF := Lib.hid (HNO.out k hlt (fun e => x2 e.2))
          rw [x1] at c0
          clear x1
          go_wp2_with fail
          go_quiet (fail)
          go_wp2
          go_ret
          exact ⟨ret_bool HF.out.symm, below_drewN HH.out.2 _⟩
      · have HF := Lib.hid (HNO.out k hlt (fun e => x1 e.1))
        go_wp2_with fail
        go_quiet (fail)
        go_wp2
        go_ret
        exact ⟨ret_bool HF.out.symm, below_drewN HH.out.2 _⟩
    · obtain rfl : k = n := by omega
      have hlt' : ¬ (k : Int) < (k : Int) := by omega
      have HF := Lib.hid (HYES.out (by first | trivial | rfl) HH.out.1)
      go_wp2
      go_ret
      exact ⟨ret_bool HF.out.symm, HH.out.2⟩
end Go.Proofs.YtkdopjkdokgipaaGreatDoor
namespace Go.Proofs.YtkdopjkdokgipaaGreatDoor
open Go.RowKit
set_option linter.unusedVariables false
set_option linter.unusedSimpArgs false
section
variable {k k' : Nat} {W : World}
theorem K_first (h : MAt 0 k W) : Calls Tryz.prog 19 #[imgK k] W fun e w' => (∃ a c, e = .returned (.tuple #[.slice a 4 c, .int .i64 0]) ∧ Ints w'.heap.size w' a 4 (fOf [2, 3, 0, 0])) ∧ Below W.heap.size W w' :=
  (First_any _ 4 4 _ 2 2 (ssM 0) (bsK k) W W.heap.size (Nat.le_refl _) h.spans h.beams).mono fun e w' hr => by
    obtain ⟨hb, hr⟩ := hr
    obtain ⟨k1, k2, ⟨t, k3⟩, _⟩ := known_M (some ⟨k + 1 + 1, 0, none⟩) (some ⟨k + 1 + 1 + 1, 0, none⟩) (some ⟨k + 1 + 1 + 1 + 1, 0, none⟩) (some ⟨k + 1 + 1 + 1 + 1 + 1, 0, none⟩)
    rw [if_pos k1, k3] at hr
    obtain ⟨a, c, he, b, ha, h1, h2, h3⟩ := hr
    exact ⟨⟨a, c, he, .inr ⟨b, 0, ha, h2, fun i hi => by rw [Nat.zero_add]; exact h3 i hi⟩⟩, hb⟩
theorem K_count (h : MAt 0 k W) : Calls Tryz.prog 21 #[imgK k] W fun e w' => e = .returned (.tuple #[.int .i64 15, .int .i64 0]) ∧ Below W.heap.size W w' :=
  (Count_any _ 4 4 _ 2 2 (ssM 0) (bsK k) W W.heap.size (Nat.le_refl _) h.spans h.beams).mono fun e w' hr => by
    obtain ⟨hb, hr⟩ := hr
    obtain ⟨k1, k2, _⟩ := known_M (some ⟨k + 1 + 1, 0, none⟩) (some ⟨k + 1 + 1 + 1, 0, none⟩) (some ⟨k + 1 + 1 + 1 + 1, 0, none⟩) (some ⟨k + 1 + 1 + 1 + 1 + 1, 0, none⟩)
    rw [k1, if_pos rfl, k2] at hr
    exact ⟨hr, hb⟩
def spK (i : Nat) : SV := if i = 0 then ⟨2, 3⟩ else if i = 1 then ⟨2, 3⟩ else if i = 2 then ⟨0, 0⟩ else ⟨0, 4⟩
theorem K_bounds (h : MAt 0 k W) : Calls Tryz.prog 22 #[imgK k] W fun e w' => (∃ ob, e = .returned (.tuple #[.slice (some ⟨ob, 0, none⟩) 4 4, .int .i64 0]) ∧ Spans w'.heap.size w' (some ⟨ob, 0, none⟩) 4 spK) ∧ Below W.heap.size W w' :=
  (Bounds_any _ 4 4 _ 2 2 (ssM 0) (bsK k) W W.heap.size (Nat.le_refl _) h.spans h.beams).mono fun e w' hr => by
    obtain ⟨hb, hr⟩ := hr
    obtain ⟨k1, k2, ⟨t, k3⟩, k4, k5, k6, k7⟩ := known_M (some ⟨k + 1 + 1, 0, none⟩) (some ⟨k + 1 + 1 + 1, 0, none⟩) (some ⟨k + 1 + 1 + 1 + 1, 0, none⟩) (some ⟨k + 1 + 1 + 1 + 1 + 1, 0, none⟩)
    rw [if_pos k1, if_neg (by rw [k3]; exact List.cons_ne_nil _ _)] at hr
    obtain ⟨ob, he, h1, h2⟩ := hr
    refine ⟨⟨ob, he, by decide, .inr ⟨ob, 0, rfl, h2.lt, fun i hi => ?_⟩⟩, hb⟩
    have h3 := (h2.congr (g := spK) (fun j hj => by
      by_cases e0 : j = 0
      · subst e0; exact k4
      by_cases e1 : j = 1
      · subst e1; exact k5
      by_cases e2 : j = 2
      · subst e2; exact k6
      obtain rfl : j = 3 := by omega
      exact k7)).cell hi
    rw [Nat.zero_add]
    exact h3
theorem K_print (h : MAt 0 k W) (ht : Lib.TabIs Tryz.prog W "internal/strconv.uint64pow10" .u64 Lib.pow10Tab) : Calls Tryz.prog 23 #[imgK k, .int .i64 2] W fun e w' => e = .returned (.tuple #[.string ⟨#[50, 45, 51, 32, 50, 45, 51, 10, 48, 32, 63, 10]⟩, .int .i64 0]) ∧ Below W.heap.size W w' :=
  (Print_any _ 4 4 _ 2 2 (ssM 0) (bsK k) 2 W W.heap.size (Nat.le_refl _) h.spans h.beams ht).mono fun e w' hr => by
    obtain ⟨hb, hr⟩ := hr
    obtain ⟨k1, k2, ⟨t, k3⟩, _⟩ := known_M (some ⟨k + 1 + 1, 0, none⟩) (some ⟨k + 1 + 1 + 1, 0, none⟩) (some ⟨k + 1 + 1 + 1 + 1, 0, none⟩) (some ⟨k + 1 + 1 + 1 + 1 + 1, 0, none⟩)
    obtain ⟨p1, p2⟩ := known_P (some ⟨k + 1 + 1, 0, none⟩) (some ⟨k + 1 + 1 + 1, 0, none⟩) (some ⟨k + 1 + 1 + 1 + 1, 0, none⟩) (some ⟨k + 1 + 1 + 1 + 1 + 1, 0, none⟩)
    rw [if_pos p1, if_neg (by rw [k3]; exact List.cons_ne_nil _ _)] at hr
    refine ⟨hr.trans ?_, hb⟩
    show Ending.returned (.tuple #[.string ⟨(picT _ _ 4 2 4).toArray⟩, .int .i64 0]) = _
    rw [p2]
theorem K_refute (h : MAt 1 k W) : Calls Tryz.prog 24 #[imgK k] W fun e w' => (∃ a c L, e = .returned (.tuple #[.slice a 9 c, .int .i64 0]) ∧ Nodes w'.heap.size w' a 9 (nodesL L) ∧ ∀ k', holdsB 4 (ssM 1) 2 (bsK k') 9 (nodesL L) = true) ∧ Below W.heap.size W w' :=
  (Refute_any _ 4 4 _ 2 2 (ssM 1) (bsK k) ⟨Nat.le_refl _, by decide⟩ W W.heap.size (Nat.le_refl _) h.spans h.beams).mono fun e w' hr => by
    obtain ⟨hb, hr⟩ := hr
    obtain ⟨k1, k2, k3⟩ := known_N (some ⟨k + 1 + 1, 0, none⟩) (some ⟨k + 1 + 1 + 1, 0, none⟩) (some ⟨k + 1 + 1 + 1 + 1, 0, none⟩) (some ⟨k + 1 + 1 + 1 + 1 + 1, 0, none⟩)
    rw [if_pos k1, k2] at hr
    dsimp only at hr
    rw [if_pos (by rw [k3]; omega)] at hr
    obtain ⟨a, c, L, ob, he, h1, h2⟩ := hr
    have hl : L.length = 9 := by rw [← k3, ← h2, List.length_map]
    have hn := outAt_nodes h1 (by decide)
    have hh : ∀ k', holdsB 4 (ssM 1) 2 (bsK k') L.length (nodesL L) = true := fun k' => by
      obtain ⟨j1, j2, j3⟩ := known_N (some ⟨k' + 1 + 1, 0, none⟩) (some ⟨k' + 1 + 1 + 1, 0, none⟩) (some ⟨k' + 1 + 1 + 1 + 1, 0, none⟩) (some ⟨k' + 1 + 1 + 1 + 1 + 1, 0, none⟩)
      exact refute_holds j1 j2 (h2.trans (show prfF 4 (ssM 1) 2 (bsK k) = prfF 4 (ssM 1) 2 (bsK k') from by kernel_rfl)) (by omega)
    rw [hl] at he hn hh
    exact ⟨⟨a, c, L, he, hn, hh⟩, hb⟩
theorem K_holds (h : MAt 1 k W) {a : Option Addr} {c len : Nat} {ns : Nat → NM} (hn : Nodes W.heap.size W a len ns) (hl : len ≤ maxLen) (hh : holdsB 4 (ssM 1) 2 (bsK k) len ns = true) : Calls Tryz.prog 30 #[imgK k, .slice a len c] W fun e w' => e = .returned (.bool true) ∧ Below W.heap.size W w' :=
  (Holds_any _ 4 4 _ 2 2 (ssM 1) (bsK k) a len c ns ⟨Nat.le_refl _, by decide⟩ hl W W.heap.size (Nat.le_refl _) h.spans h.beams hn).mono fun e w' hr => by
    rw [hh] at hr; exact hr
def nodeK (b : Nat) (i : Nat) : NM := ⟨-1, 0, 0, some ⟨b, 0, none⟩, 2, 2, fun j => if j = 0 then -1 else 1⟩
theorem K_one (k b : Nat) : holdsB 4 (ssM 1) 2 (bsK k) 1 (nodeK b) = true := by kernel_rfl
end
end Go.Proofs.YtkdopjkdokgipaaGreatDoor
