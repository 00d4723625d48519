/- The walk of the reference's Merge, for images as defined. -/
import Derived.Deep.CutBlock
import Derived.Test.YtnfigielhnnpnaaDoorGmgA
namespace Go.Proofs.YtnfigielhnnpnaaDoor
open Go.RowKit
set_option linter.unusedVariables false
set_option linter.unusedSimpArgs false
theorem mg_ints_src {B : Nat} {W : World} {a : Option Addr} {n : Nat} {f : Nat → Int} (h : Ints B W a n f) : n = 0 ∨ ∃ ad, a = some ad ∧ ∀ j u, (iC f n)[j]? = some u → W.cell? (ad.add j) = some u := by
  rcases h with h | ⟨b, off, h1, h2, h3⟩
  · exact .inl h
  · refine .inr ⟨_, h1, fun j u hu => ?_⟩
    have hj : j < n := by
      have h4 := (List.getElem?_eq_some_iff.1 hu).1
      rwa [iC_len] at h4
    rw [iC_get hj] at hu
    injection hu with hu
    subst hu
    rw [addr_add]
    exact h3 j hj
/-- what the reference's Merge hands back -/
def R8Mg (n t : Nat) (im : Nat → IM) (w : World) (e : Ending) (w' : World) : Prop :=
  Below w.heap.size w w' ∧ ∃ cb cap oa oc L, e = .returned (.tuple #[.agg #[.slice (some ⟨cb, 0, none⟩) n cap, .slice oa L.length oc], .bool (mgOk n im t)]) ∧ L.map BM.strip = (mgB im t).map BM.strip ∧ Fresh w.heap.size w' (fun W' => Spans W'.heap.size W' (some ⟨cb, 0, none⟩) n (mgC im t) ∧ Beams W'.heap.size W' oa L.length (beamL L))
set_option maxRecDepth 100000 in
set_option maxHeartbeats 4000000 in
theorem r8Merge_any (a : Option Addr) (t c : Nat) (im : Nat → IM) (w : World) (B : Nat) (hBw : B ≤ w.heap.size) (hI : Imgs B w a t im) (n : Nat) (hn : (im 0).cn = n) (hS : ∀ i, i < t → ShapedI n (im i) = true) (ht : 1 ≤ t ∧ t ≤ 10) :
    Calls Tryd.prog 9 #[.slice a t c] w (R8Mg n t im w) := by
  have HI2 := Lib.hid hI
  have HN := Lib.hid hn
  have HSD := Lib.hid hS
  have HE := Lib.hid (fun (w' : World) (cb cap : Nat) (oa : Option Addr) (oc : Nat) (L : List BM) (hL : L.map BM.strip = (mgB im t).map BM.strip) (h1 : Fresh w.heap.size w' (fun W' => Spans W'.heap.size W' (some ⟨cb, 0, none⟩) n (mgC im t) ∧ Beams W'.heap.size W' oa L.length (beamL L))) (hb : Below w.heap.size w w') => show R8Mg n t im w (.returned (.tuple #[.agg #[.slice (some ⟨cb, 0, none⟩) n cap, .slice oa L.length oc], .bool (mgOk n im t)])) w' from ⟨hb, cb, cap, oa, oc, L, rfl, hL, h1⟩)
  generalize R8Mg n t im w = RES at *
  obtain ⟨ht1, ht10⟩ := ht
  obtain ⟨hsh0, _⟩ := ShapedI.shape (HSD.out 0 (by omega))
  have hn1 := hsh0.n1
  have hn40 := hsh0.n40
  rw [HN.out] at hn1 hn40
  clear hI hn hS hsh0
  go_enter Tryd.func9, Tryd.ntmps9
  go_upto_region 1 with (fail)
  have HRB := Lib.hid (heap_alloc_new w (.cells #[.slice none 0 0, .slice none 0 0] 28))
  have HV := Lib.hid (alloc_below w (.cells #[.slice none 0 0, .slice none 0 0] 28))
  generalize World.alloc w _ = V0 at *
  obtain ⟨xb, xo, hxa, hxB, x0, _, xS, _⟩ := (HI2.out.below (HV.out.mono hBw)).get (i := 0) (by omega)
  subst hxa
  rw [HN.out] at x0 xS
  rw [Nat.zero_mul, Nat.add_zero] at x0
  have hxz : xb < V0.heap.size := by have := HV.out.size; omega
  have h0t : (0 : Int) < (t : Int) := by omega
  obtain ⟨sb, so, hsa, hsB, _⟩ := xS.get (i := 0) (by omega)
  have hsc : ∀ i, i < n → V0.cell? ⟨sb, so + i * 2, none⟩ = some (.int .i64 ((im 0).ss i).lo) ∧ V0.cell? ⟨sb, so + i * 2 + 1, none⟩ = some (.int .i64 ((im 0).ss i).hi) := by
    rcases xS.2 with h | ⟨b2, off2, h1, _, h3⟩
    · omega
    · rw [hsa] at h1
      injection h1 with h1
      injection h1 with e1 e2
      subst e1 e2
      exact h3
  have HNW := Lib.hid (spans_cells hsc)
  have HCM := Lib.hid (show mgC im 0 = (im 0).ss from rfl)
  obtain ⟨i0, hi0', hz0, hz1, hz2⟩ := info_parts info_span
  rw [hsa] at x0
  clear xS hsc hsa
  go_upto_region 2 with (at_builtin; refine wpList_append_lies _ rfl _ _ 25 rfl V0.heap.size 44 i0 _ 2 16 Tryd.underlying25 hi0' hz0 hz1 hz2 rfl (by decide) (.slice none 0 0) 0 [] rfl (World.ownsRow_nil _ _ _ _) ⟨sb, so, none⟩ n (im 0).cc (sC (im 0).ss n) rfl sC_len HNW.out sC_one (by omega) (by unfold maxLen; omega) (by omega) (Nat.le_refl _) _ rfl ?_; intro cb cap W2 hown hgrow hat hlt)
  rw [Nat.zero_add, List.nil_append] at hown
  try rw [Nat.zero_add] at hown
  try simp only [Nat.zero_add]
  have hcb1 : V0.heap.size ≤ cb := by
    rcases hat with h | h
    · cases h
    · omega
  have hb2 : Below V0.heap.size V0 W2 := ⟨hgrow.os, hgrow.tape, hgrow.output, hgrow.size, fun b hb => hgrow.block b hb (by simp [Value.ownBlock])⟩
  have H0 := Lib.hid (MgI.start HV.out HRB.out hb2 hown hcb1 hlt)
  generalize World.alloc W2 _ = V1 at *
  generalize W2.heap.size = ob at *
  rw [← HCM.out] at H0
  clear hb2 hown hgrow hat hlt hcb1 x0 hxz HCM HRB HV HNW hsB hi0' hz0 hz1 hz2
  go_wp2
  go_loopw [5, 6] (fun s5 s6 wr => ∃ i : Nat, i ≤ t ∧ s6 = .int .i64 (i : Int) ∧ s5 = .bool (mgOk n im i) ∧ Hid (∃ v L, L.map BM.strip = (mgB im i).map BM.strip ∧ MgI w cb ob n cap (mgC im i) v L wr)) (fun _ s6 _ => t - (intOf s6).toNat)
  case atStart => exact ⟨0, Nat.zero_le _, rfl, rfl, Lib.hid ⟨_, [], rfl, H0.out⟩⟩
  case round =>
    clear H0
    obtain ⟨i, hi, rfl, rfl, HX⟩ := hrel
    obtain ⟨v, L, hst, hmg⟩ := HX.out
    have HST := Lib.hid hst
    have HMG := Lib.hid hmg
    by_cases hlt : i < t
    · have hlt' : (i : Int) < (t : Int) := by omega
      clear hst hmg HX
      have HOKS := Lib.hid (show mgOk n im (i + 1) = (mgOk n im i && allUpto n (fun x => decide ((mgC im (i + 1) x).lo ≤ (mgC im (i + 1) x).hi))) from rfl)
      generalize mgOk n im i = ok at *
      go_wp2
      go_loopw [5, 7] (fun s5 s7 wx => ∃ cc : Nat, cc ≤ n ∧ s7 = .int .i64 (cc : Int) ∧ s5 = .bool (ok && allUpto cc (fun x => decide ((mgC im (i + 1) x).lo ≤ (mgC im (i + 1) x).hi))) ∧ Hid (MgI w cb ob n cap (mgP im i cc) v L wx)) (fun _ s7 _ => n - (intOf s7).toNat)
      case atStart => exact ⟨0, Nat.zero_le _, rfl, by simp [allUpto], Lib.hid (HMG.out.congr (fun c _ => by unfold mgP; rw [if_neg (by omega)]))⟩
      case round =>
        clear HMG
        obtain ⟨cc, hcc, rfl, rfl, HY⟩ := hrel
        by_cases hcn : cc < n
        · have hcn' : (cc : Int) < (n : Int) := by omega
          have HSUC := Lib.hid (show (ok && allUpto (cc + 1) (fun x => decide ((mgC im (i + 1) x).lo ≤ (mgC im (i + 1) x).hi))) = ((ok && allUpto cc (fun x => decide ((mgC im (i + 1) x).lo ≤ (mgC im (i + 1) x).hi))) && decide ((mgC im (i + 1) cc).lo ≤ (mgC im (i + 1) cc).hi)) from by rw [allUpto_succ, Bool.and_assoc])
          obtain ⟨yb, yo, hya, hyB, x0, x1, yS, _⟩ := (HI2.out.below (HY.out.below.mono hBw)).get hlt
          injection hya with hya
          injection hya with e1 e2 _
          subst e1 e2
          rw [(ShapedI.shape (HSD.out i hlt)).2] at x0 yS
          have hxz : xb < wr.heap.size := by have := HY.out.below.size; omega
          obtain ⟨sb, so, hsa, hsB, e0, e1⟩ := yS.get hcn
          rw [hsa] at x0
          have hsz : sb < wr.heap.size := by have := HY.out.below.size; omega
          clear yS hsa x1
          obtain ⟨b0, b1⟩ := HY.out.box
          have hob := HY.out.lt
          clear b1
          generalize (ok && allUpto cc (fun x => decide ((mgC im (i + 1) x).lo ≤ (mgC im (i + 1) x).hi))) = isb at *
          have HNX := Lib.hid (show mgC im (i + 1) cc = ⟨max (mgC im i cc).lo ((im i).ss cc).lo, min (mgC im i cc).hi ((im i).ss cc).hi⟩ from rfl)
          go_upto_region 9 with (fail)
          clear b0
          go_cut [] from 29 to 65 (fun wx => Hid (MgI w cb ob n cap (mgP im i (cc + 1)) v L wx))
          case first =>
            refine wp_region_any (by kernel_rfl) ?_
            change wpAny _ _ _ _ _ _ _ (World.drew wr)
            have x0 : wr.drew.cell? ⟨xb, xo + i * 2, none⟩ = _ := x0
            have e0 : wr.drew.cell? ⟨sb, so + cc * 2, none⟩ = _ := e0
            have e1 : wr.drew.cell? ⟨sb, so + cc * 2 + 1, none⟩ = _ := e1
            have HMGd := Lib.hid (HY.out.step (Below.refl wr.heap.size wr).drew)
            have hxz : xb < wr.drew.heap.size := hxz
            have hsz : sb < wr.drew.heap.size := hsz
            have hob : ob < wr.drew.heap.size := hob
            clear HY HSUC
            generalize World.drew wr = Vd at *
            obtain ⟨b0, b1⟩ := HMGd.out.box
            obtain ⟨p0, p1⟩ := HMGd.out.cell hcn
            have f0 := HMGd.out.frozen (cc * 2)
            have f1 := HMGd.out.frozen (cc * 2 + 1)
            have hpc : mgP im i cc cc = mgC im i cc := by unfold mgP; rw [if_neg (by omega)]
            rw [hpc] at p0 p1
            clear hpc b1
            generalize (mgC im i cc).lo = lo at *
            generalize (mgC im i cc).hi = hi2 at *
            generalize ((im i).ss cc).lo = lo2 at *
            generalize ((im i).ss cc).hi = hi3 at *
            have HMX := Lib.hid (show (if lo < lo2 then lo2 else lo) = max lo lo2 from by split <;> omega)
            have HMN := Lib.hid (show (if hi3 < hi2 then hi3 else hi2) = min hi2 hi3 from by split <;> omega)
            refine any_of_tail 36 36 (fun w' => w' = Vd) (by kernel_rfl) rfl (fun hS => ?_)
            refine headH_take (i := 0) (v := ?_) rfl (by kernel_rfl) (fun _ _ _ h => h) (Or.inl ⟨by rfl, ?_⟩) (by assumption) ?_; rotate_left; (· intro w' hSw; (try dsimp only at hSw); (try subst hSw); (try simp only [List.getElem_toArray, List.getElem_cons_zero, List.getElem_cons_succ]); go_simp; (try with_reducible rfl)); (try simp only [List.getElem_toArray, List.getElem_cons_zero, List.getElem_cons_succ]); (try dsimp only [Act.put]); (try simp only [List.setIfInBounds_toArray, List.set_cons_zero, List.set_cons_succ])
            refine headH_take (i := 1) (v := ?_) rfl (by kernel_rfl) (fun _ _ _ h => h) (Or.inl ⟨by rfl, ?_⟩) (by assumption) ?_; rotate_left; (· intro w' hSw; (try dsimp only at hSw); (try subst hSw); (try simp only [List.getElem_toArray, List.getElem_cons_zero, List.getElem_cons_succ]); go_simp; (try with_reducible rfl)); (try simp only [List.getElem_toArray, List.getElem_cons_zero, List.getElem_cons_succ]); (try dsimp only [Act.put]); (try simp only [List.setIfInBounds_toArray, List.set_cons_zero, List.set_cons_succ])
            refine headH_take (i := 2) (v := ?_) rfl (by kernel_rfl) (fun _ _ _ h => h) (Or.inl ⟨by rfl, ?_⟩) (by assumption) ?_; rotate_left; (· intro w' hSw; (try dsimp only at hSw); (try subst hSw); (try simp only [List.getElem_toArray, List.getElem_cons_zero, List.getElem_cons_succ]); go_simp; (try with_reducible rfl)); (try simp only [List.getElem_toArray, List.getElem_cons_zero, List.getElem_cons_succ]); (try dsimp only [Act.put]); (try simp only [List.setIfInBounds_toArray, List.set_cons_zero, List.set_cons_succ])
            refine headH_take (i := 3) (v := ?_) rfl (by kernel_rfl) (fun _ _ _ h => h) (Or.inl ⟨by rfl, ?_⟩) (by assumption) ?_; rotate_left; (· intro w' hSw; (try dsimp only at hSw); (try subst hSw); (try simp only [List.getElem_toArray, List.getElem_cons_zero, List.getElem_cons_succ]); go_simp; (try with_reducible rfl)); (try simp only [List.getElem_toArray, List.getElem_cons_zero, List.getElem_cons_succ]); (try dsimp only [Act.put]); (try simp only [List.setIfInBounds_toArray, List.set_cons_zero, List.set_cons_succ])
            refine headH_take (i := 4) (v := ?_) rfl (by kernel_rfl) (fun _ _ _ h => h) (Or.inl ⟨by rfl, ?_⟩) (by assumption) ?_; rotate_left; (· intro w' hSw; (try dsimp only at hSw); (try subst hSw); (try simp only [List.getElem_toArray, List.getElem_cons_zero, List.getElem_cons_succ]); go_simp; (try with_reducible rfl)); (try simp only [List.getElem_toArray, List.getElem_cons_zero, List.getElem_cons_succ]); (try dsimp only [Act.put]); (try simp only [List.setIfInBounds_toArray, List.set_cons_zero, List.set_cons_succ])
            refine headH_take (i := 5) (v := ?_) rfl (by kernel_rfl) (fun _ _ _ h => h) (Or.inl ⟨by rfl, ?_⟩) (by assumption) ?_; rotate_left; (· intro w' hSw; (try dsimp only at hSw); (try subst hSw); (try simp only [List.getElem_toArray, List.getElem_cons_zero, List.getElem_cons_succ]); go_simp; (try with_reducible rfl)); (try simp only [List.getElem_toArray, List.getElem_cons_zero, List.getElem_cons_succ]); (try dsimp only [Act.put]); (try simp only [List.setIfInBounds_toArray, List.set_cons_zero, List.set_cons_succ])
            refine headH_take (i := 6) (v := ?_) rfl (by kernel_rfl) (fun _ _ _ h => h) (Or.inl ⟨by rfl, ?_⟩) (by assumption) ?_; rotate_left; (· intro w' hSw; (try dsimp only at hSw); (try subst hSw); (try simp only [List.getElem_toArray, List.getElem_cons_zero, List.getElem_cons_succ]); go_simp; (try with_reducible rfl)); (try simp only [List.getElem_toArray, List.getElem_cons_zero, List.getElem_cons_succ]); (try dsimp only [Act.put]); (try simp only [List.setIfInBounds_toArray, List.set_cons_zero, List.set_cons_succ])
            refine headH_take (i := 7) (v := ?_) rfl (by kernel_rfl) (fun _ _ _ h => h) (Or.inl ⟨by rfl, ?_⟩) (by assumption) ?_; rotate_left; (· intro w' hSw; (try dsimp only at hSw); (try subst hSw); (try simp only [List.getElem_toArray, List.getElem_cons_zero, List.getElem_cons_succ]); go_simp; (try with_reducible rfl)); (try simp only [List.getElem_toArray, List.getElem_cons_zero, List.getElem_cons_succ]); (try dsimp only [Act.put]); (try simp only [List.setIfInBounds_toArray, List.set_cons_zero, List.set_cons_succ])
            refine headH_take (i := 8) (v := ?_) rfl (by kernel_rfl) (fun _ _ _ h => h) (Or.inl ⟨by rfl, ?_⟩) (by assumption) ?_; rotate_left; (· intro w' hSw; (try dsimp only at hSw); (try subst hSw); (try simp only [List.getElem_toArray, List.getElem_cons_zero, List.getElem_cons_succ]); go_simp; (try with_reducible rfl)); (try simp only [List.getElem_toArray, List.getElem_cons_zero, List.getElem_cons_succ]); (try dsimp only [Act.put]); (try simp only [List.setIfInBounds_toArray, List.set_cons_zero, List.set_cons_succ])
            refine headH_take (i := 9) (v := ?_) rfl (by kernel_rfl) (fun _ _ _ h => h) (Or.inl ⟨by rfl, ?_⟩) (by assumption) ?_; rotate_left; (· intro w' hSw; (try dsimp only at hSw); (try subst hSw); (try simp only [List.getElem_toArray, List.getElem_cons_zero, List.getElem_cons_succ]); go_simp; (try with_reducible rfl)); (try simp only [List.getElem_toArray, List.getElem_cons_zero, List.getElem_cons_succ]); (try dsimp only [Act.put]); (try simp only [List.setIfInBounds_toArray, List.set_cons_zero, List.set_cons_succ])
            refine headH_take (i := 10) (v := ?_) rfl (by kernel_rfl) (fun _ _ _ h => h) (Or.inl ⟨by rfl, ?_⟩) (by assumption) ?_; rotate_left; (· intro w' hSw; (try dsimp only at hSw); (try subst hSw); (try simp only [List.getElem_toArray, List.getElem_cons_zero, List.getElem_cons_succ]); go_simp; (try with_reducible rfl)); (try simp only [List.getElem_toArray, List.getElem_cons_zero, List.getElem_cons_succ]); (try dsimp only [Act.put]); (try simp only [List.setIfInBounds_toArray, List.set_cons_zero, List.set_cons_succ])
            refine headH_take (i := 11) (v := ?_) rfl (by kernel_rfl) (fun _ _ _ h => h) (Or.inl ⟨by rfl, ?_⟩) (by assumption) ?_; rotate_left; (· intro w' hSw; (try dsimp only at hSw); (try subst hSw); (try simp only [List.getElem_toArray, List.getElem_cons_zero, List.getElem_cons_succ]); go_simp; (try with_reducible rfl)); (try simp only [List.getElem_toArray, List.getElem_cons_zero, List.getElem_cons_succ]); (try dsimp only [Act.put]); (try simp only [List.setIfInBounds_toArray, List.set_cons_zero, List.set_cons_succ])
            refine headH_take (i := 12) (v := ?_) rfl (by kernel_rfl) (fun _ _ _ h => h) (Or.inl ⟨by rfl, ?_⟩) (by assumption) ?_; rotate_left; (· intro w' hSw; (try dsimp only at hSw); (try subst hSw); (try simp only [List.getElem_toArray, List.getElem_cons_zero, List.getElem_cons_succ]); go_simp; (try with_reducible rfl)); (try simp only [List.getElem_toArray, List.getElem_cons_zero, List.getElem_cons_succ]); (try dsimp only [Act.put]); (try simp only [List.setIfInBounds_toArray, List.set_cons_zero, List.set_cons_succ])
            refine headH_take (i := 13) (v := ?_) rfl (by kernel_rfl) (fun _ _ _ h => h) (Or.inl ⟨by rfl, ?_⟩) (by assumption) ?_; rotate_left; (· intro w' hSw; (try dsimp only at hSw); (try subst hSw); (try simp only [List.getElem_toArray, List.getElem_cons_zero, List.getElem_cons_succ]); go_simp; (try with_reducible rfl)); (try simp only [List.getElem_toArray, List.getElem_cons_zero, List.getElem_cons_succ]); (try dsimp only [Act.put]); (try simp only [List.setIfInBounds_toArray, List.set_cons_zero, List.set_cons_succ])
            refine headH_take (i := 14) (v := ?_) rfl (by kernel_rfl) (fun _ _ _ h => h) (Or.inl ⟨by rfl, ?_⟩) (by assumption) ?_; rotate_left; (· intro w' hSw; (try dsimp only at hSw); (try subst hSw); (try simp only [List.getElem_toArray, List.getElem_cons_zero, List.getElem_cons_succ]); go_simp; (try with_reducible rfl)); (try simp only [List.getElem_toArray, List.getElem_cons_zero, List.getElem_cons_succ]); (try dsimp only [Act.put]); (try simp only [List.setIfInBounds_toArray, List.set_cons_zero, List.set_cons_succ])
            refine headH_take (i := 15) (v := ?_) rfl (by kernel_rfl) (fun _ _ _ h => h) (Or.inl ⟨by rfl, ?_⟩) (by assumption) ?_; rotate_left; (· intro w' hSw; (try dsimp only at hSw); (try subst hSw); (try simp only [List.getElem_toArray, List.getElem_cons_zero, List.getElem_cons_succ]); go_simp; (try with_reducible rfl)); (try simp only [List.getElem_toArray, List.getElem_cons_zero, List.getElem_cons_succ]); (try dsimp only [Act.put]); (try simp only [List.setIfInBounds_toArray, List.set_cons_zero, List.set_cons_succ])
            refine headH_take (i := 16) (v := ?_) rfl (by kernel_rfl) (fun _ _ _ h => h) (Or.inl ⟨by rfl, ?_⟩) (by assumption) ?_; rotate_left; (· intro w' hSw; (try dsimp only at hSw); (try subst hSw); (try simp only [List.getElem_toArray, List.getElem_cons_zero, List.getElem_cons_succ]); go_simp; (try with_reducible rfl)); (try simp only [List.getElem_toArray, List.getElem_cons_zero, List.getElem_cons_succ]); (try dsimp only [Act.put]); (try simp only [List.setIfInBounds_toArray, List.set_cons_zero, List.set_cons_succ])
            refine headH_take (i := 17) (v := ?_) rfl (by kernel_rfl) (fun _ _ _ h => h) (Or.inl ⟨by rfl, ?_⟩) (by assumption) ?_; rotate_left; (· intro w' hSw; (try dsimp only at hSw); (try subst hSw); (try simp only [List.getElem_toArray, List.getElem_cons_zero, List.getElem_cons_succ]); go_simp; (try with_reducible rfl)); (try simp only [List.getElem_toArray, List.getElem_cons_zero, List.getElem_cons_succ]); (try dsimp only [Act.put]); (try simp only [List.setIfInBounds_toArray, List.set_cons_zero, List.set_cons_succ])
            refine headH_take (i := 19) (v := ?_) rfl (by kernel_rfl) (fun _ _ _ h => h) (Or.inl ⟨by rfl, ?_⟩) (by assumption) ?_; rotate_left; (· intro w' hSw; (try dsimp only at hSw); (try subst hSw); (try simp only [List.getElem_toArray, List.getElem_cons_zero, List.getElem_cons_succ]); go_simp; (try with_reducible rfl)); (try simp only [List.getElem_toArray, List.getElem_cons_zero, List.getElem_cons_succ]); (try dsimp only [Act.put]); (try simp only [List.setIfInBounds_toArray, List.set_cons_zero, List.set_cons_succ])
            refine headH_take (i := 20) (v := ?_) rfl (by kernel_rfl) (fun _ _ _ h => h) (Or.inl ⟨by rfl, ?_⟩) (by assumption) ?_; rotate_left; (· intro w' hSw; (try dsimp only at hSw); (try subst hSw); (try simp only [List.getElem_toArray, List.getElem_cons_zero, List.getElem_cons_succ]); go_simp; (try with_reducible rfl)); (try simp only [List.getElem_toArray, List.getElem_cons_zero, List.getElem_cons_succ]); (try dsimp only [Act.put]); (try simp only [List.setIfInBounds_toArray, List.set_cons_zero, List.set_cons_succ])
            refine headH_take (i := 21) (v := ?_) rfl (by kernel_rfl) (fun _ _ _ h => h) (Or.inl ⟨by rfl, ?_⟩) (by assumption) ?_; rotate_left; (· intro w' hSw; (try dsimp only at hSw); (try subst hSw); (try simp only [List.getElem_toArray, List.getElem_cons_zero, List.getElem_cons_succ]); go_simp; (try with_reducible rfl)); (try simp only [List.getElem_toArray, List.getElem_cons_zero, List.getElem_cons_succ]); (try dsimp only [Act.put]); (try simp only [List.setIfInBounds_toArray, List.set_cons_zero, List.set_cons_succ])
            refine headH_take (i := 22) (v := ?_) rfl (by kernel_rfl) (fun _ _ _ h => h) (Or.inl ⟨by rfl, ?_⟩) (by assumption) ?_; rotate_left; (· intro w' hSw; (try dsimp only at hSw); (try subst hSw); (try simp only [List.getElem_toArray, List.getElem_cons_zero, List.getElem_cons_succ]); go_simp; (try with_reducible rfl)); (try simp only [List.getElem_toArray, List.getElem_cons_zero, List.getElem_cons_succ]); (try dsimp only [Act.put]); (try simp only [List.setIfInBounds_toArray, List.set_cons_zero, List.set_cons_succ])
            refine headH_take (i := 23) (v := ?_) rfl (by kernel_rfl) (fun _ _ _ h => h) (Or.inl ⟨by rfl, ?_⟩) (by assumption) ?_; rotate_left; (· intro w' hSw; (try dsimp only at hSw); (try subst hSw); (try simp only [List.getElem_toArray, List.getElem_cons_zero, List.getElem_cons_succ]); go_simp; (try with_reducible rfl)); (try simp only [List.getElem_toArray, List.getElem_cons_zero, List.getElem_cons_succ]); (try dsimp only [Act.put]); (try simp only [List.setIfInBounds_toArray, List.set_cons_zero, List.set_cons_succ])
            refine headH_take (i := 24) (v := ?_) rfl (by kernel_rfl) (fun _ _ _ h => h) (Or.inl ⟨by rfl, ?_⟩) (by assumption) ?_; rotate_left; (· intro w' hSw; (try dsimp only at hSw); (try subst hSw); (try simp only [List.getElem_toArray, List.getElem_cons_zero, List.getElem_cons_succ]); go_simp; (try with_reducible rfl)); (try simp only [List.getElem_toArray, List.getElem_cons_zero, List.getElem_cons_succ]); (try dsimp only [Act.put]); (try simp only [List.setIfInBounds_toArray, List.set_cons_zero, List.set_cons_succ])
            refine headH_take (i := 25) (v := ?_) rfl (by kernel_rfl) (fun _ _ _ h => h) (Or.inl ⟨by rfl, ?_⟩) (by assumption) ?_; rotate_left; (· intro w' hSw; (try dsimp only at hSw); (try subst hSw); (try simp only [List.getElem_toArray, List.getElem_cons_zero, List.getElem_cons_succ]); go_simp; (try with_reducible rfl)); (try simp only [List.getElem_toArray, List.getElem_cons_zero, List.getElem_cons_succ]); (try dsimp only [Act.put]); (try simp only [List.setIfInBounds_toArray, List.set_cons_zero, List.set_cons_succ])
            refine headH_take (i := 26) (v := ?_) rfl (by kernel_rfl) (fun _ _ _ h => h) (Or.inl ⟨by rfl, ?_⟩) (by assumption) ?_; rotate_left; (· intro w' hSw; (try dsimp only at hSw); (try subst hSw); (try simp only [List.getElem_toArray, List.getElem_cons_zero, List.getElem_cons_succ]); go_simp; (try with_reducible rfl)); (try simp only [List.getElem_toArray, List.getElem_cons_zero, List.getElem_cons_succ]); (try dsimp only [Act.put]); (try simp only [List.setIfInBounds_toArray, List.set_cons_zero, List.set_cons_succ])
            refine headH_take (i := 27) (v := ?_) rfl (by kernel_rfl) (fun _ _ _ h => h) (Or.inl ⟨by rfl, ?_⟩) (by assumption) ?_; rotate_left; (· intro w' hSw; (try dsimp only at hSw); (try subst hSw); (try simp only [List.getElem_toArray, List.getElem_cons_zero, List.getElem_cons_succ]); go_simp; (try with_reducible rfl)); (try simp only [List.getElem_toArray, List.getElem_cons_zero, List.getElem_cons_succ]); (try dsimp only [Act.put]); (try simp only [List.setIfInBounds_toArray, List.set_cons_zero, List.set_cons_succ])
            refine headH_take (i := 28) (v := ?_) rfl (by kernel_rfl) (fun _ _ _ h => h) (Or.inl ⟨by rfl, ?_⟩) (by assumption) ?_; rotate_left; (· intro w' hSw; (try dsimp only at hSw); (try subst hSw); (try simp only [List.getElem_toArray, List.getElem_cons_zero, List.getElem_cons_succ]); go_simp; (try with_reducible rfl)); (try simp only [List.getElem_toArray, List.getElem_cons_zero, List.getElem_cons_succ]); (try dsimp only [Act.put]); (try simp only [List.setIfInBounds_toArray, List.set_cons_zero, List.set_cons_succ])
            refine headH_take (i := 29) (v := ?_) rfl (by kernel_rfl) (fun _ _ _ h => h) (Or.inl ⟨by rfl, ?_⟩) (by assumption) ?_; rotate_left; (· intro w' hSw; (try dsimp only at hSw); (try subst hSw); (try simp only [List.getElem_toArray, List.getElem_cons_zero, List.getElem_cons_succ]); go_simp; (try with_reducible rfl)); (try simp only [List.getElem_toArray, List.getElem_cons_zero, List.getElem_cons_succ]); (try dsimp only [Act.put]); (try simp only [List.setIfInBounds_toArray, List.set_cons_zero, List.set_cons_succ])
            refine headH_take (i := 30) (v := ?_) rfl (by kernel_rfl) (fun _ _ _ h => h) (Or.inl ⟨by rfl, ?_⟩) (by assumption) ?_; rotate_left; (· intro w' hSw; (try dsimp only at hSw); (try subst hSw); (try simp only [List.getElem_toArray, List.getElem_cons_zero, List.getElem_cons_succ]); go_simp; (try with_reducible rfl)); (try simp only [List.getElem_toArray, List.getElem_cons_zero, List.getElem_cons_succ]); (try dsimp only [Act.put]); (try simp only [List.setIfInBounds_toArray, List.set_cons_zero, List.set_cons_succ])
            refine headH_take (i := 31) (v := ?_) rfl (by kernel_rfl) (fun _ _ _ h => h) (Or.inl ⟨by rfl, ?_⟩) (by assumption) ?_; rotate_left; (· intro w' hSw; (try dsimp only at hSw); (try subst hSw); (try simp only [List.getElem_toArray, List.getElem_cons_zero, List.getElem_cons_succ]); go_simp; (try with_reducible rfl)); (try simp only [List.getElem_toArray, List.getElem_cons_zero, List.getElem_cons_succ]); (try dsimp only [Act.put]); (try simp only [List.setIfInBounds_toArray, List.set_cons_zero, List.set_cons_succ])
            refine headH_take (i := 32) (v := ?_) rfl (by kernel_rfl) (fun _ _ _ h => h) (Or.inl ⟨by rfl, ?_⟩) (by assumption) ?_; rotate_left; (· intro w' hSw; (try dsimp only at hSw); (try subst hSw); (try simp only [List.getElem_toArray, List.getElem_cons_zero, List.getElem_cons_succ]); go_simp; (try with_reducible rfl)); (try simp only [List.getElem_toArray, List.getElem_cons_zero, List.getElem_cons_succ]); (try dsimp only [Act.put]); (try simp only [List.setIfInBounds_toArray, List.set_cons_zero, List.set_cons_succ])
            refine headH_take (i := 33) (v := ?_) rfl (by kernel_rfl) (fun _ _ _ h => h) (Or.inl ⟨by rfl, ?_⟩) (by assumption) ?_; rotate_left; (· intro w' hSw; (try dsimp only at hSw); (try subst hSw); (try simp only [List.getElem_toArray, List.getElem_cons_zero, List.getElem_cons_succ]); go_simp; (try with_reducible rfl)); (try simp only [List.getElem_toArray, List.getElem_cons_zero, List.getElem_cons_succ]); (try dsimp only [Act.put]); (try simp only [List.setIfInBounds_toArray, List.set_cons_zero, List.set_cons_succ])

            refine headH_all (rs := [18, 34]) (by kernel_rfl) (by simp) (by kernel_rfl) ?_
            intro i0 hi0
            simp only [List.mem_cons, List.not_mem_nil, or_false] at hi0
            rcases hi0 with rfl | rfl
            · (refine headH_op rfl (fun K hK => ?_); (try simp only [List.getElem_toArray, List.getElem_cons_zero, List.getElem_cons_succ]); go_simp; refine hK.out _ _ rfl (fun hS => ?_); clear hK K; (try simp only [List.getElem_toArray, List.getElem_cons_zero, List.getElem_cons_succ]); (try dsimp only [Act.put]); (try simp only [List.setIfInBounds_toArray, List.set_cons_zero, List.set_cons_succ]))
              rw [HMX.out]
              generalize max lo lo2 = ml at *
              refine headH_all (rs := [34]) (by kernel_rfl) (by simp) (by kernel_rfl) ?_; intro i0 hi0; simp only [List.mem_cons, List.not_mem_nil, or_false] at hi0; subst hi0; refine headH_op rfl (fun K hK => ?_); (try simp only [List.getElem_toArray, List.getElem_cons_zero, List.getElem_cons_succ]); go_simp; refine hK.out _ _ rfl (fun hS => ?_); clear hK K; (try simp only [List.getElem_toArray, List.getElem_cons_zero, List.getElem_cons_succ]); (try dsimp only [Act.put]); (try simp only [List.setIfInBounds_toArray, List.set_cons_zero, List.set_cons_succ])
              rw [HMN.out]
              generalize min hi2 hi3 = mh at *
              refine headH_take (i := 35) (v := ?_) rfl (by kernel_rfl) (fun _ _ _ h => h) (Or.inl ⟨by rfl, ?_⟩) (by assumption) ?_; rotate_left; (· intro w' hSw; (try dsimp only at hSw); (try subst hSw); (try simp only [List.getElem_toArray, List.getElem_cons_zero, List.getElem_cons_succ]); go_simp; (try with_reducible rfl)); (try simp only [List.getElem_toArray, List.getElem_cons_zero, List.getElem_cons_succ]); (try dsimp only [Act.put]); (try simp only [List.setIfInBounds_toArray, List.set_cons_zero, List.set_cons_succ])
              change tailL _ _ _ _ _ _ _ _; refine ⟨by kernel_rfl, ?_⟩; simp only [List.drop_succ_cons, List.drop_zero]; go_wp2; go_meet; exact Lib.hid ((HMGd.out.set hcn ml mh).congr (g := mgP im i (cc + 1)) (fun x _ => by (unfold mgP; by_cases e : x = cc; (subst e; rw [if_pos rfl, if_pos (by omega), HNX.out]); (rw [if_neg e]; by_cases e2 : x < cc; (rw [if_pos e2, if_pos (by omega)]); (rw [if_neg e2, if_neg (by omega)])))))
            · (refine headH_op rfl (fun K hK => ?_); (try simp only [List.getElem_toArray, List.getElem_cons_zero, List.getElem_cons_succ]); go_simp; refine hK.out _ _ rfl (fun hS => ?_); clear hK K; (try simp only [List.getElem_toArray, List.getElem_cons_zero, List.getElem_cons_succ]); (try dsimp only [Act.put]); (try simp only [List.setIfInBounds_toArray, List.set_cons_zero, List.set_cons_succ]))
              rw [HMN.out]
              generalize min hi2 hi3 = mh at *
              refine headH_all (rs := [18]) (by kernel_rfl) (by simp) (by kernel_rfl) ?_; intro i0 hi0; simp only [List.mem_cons, List.not_mem_nil, or_false] at hi0; subst hi0; refine headH_op rfl (fun K hK => ?_); (try simp only [List.getElem_toArray, List.getElem_cons_zero, List.getElem_cons_succ]); go_simp; refine hK.out _ _ rfl (fun hS => ?_); clear hK K; (try simp only [List.getElem_toArray, List.getElem_cons_zero, List.getElem_cons_succ]); (try dsimp only [Act.put]); (try simp only [List.setIfInBounds_toArray, List.set_cons_zero, List.set_cons_succ])
              rw [HMX.out]
              generalize max lo lo2 = ml at *
              refine headH_take (i := 35) (v := ?_) rfl (by kernel_rfl) (fun _ _ _ h => h) (Or.inl ⟨by rfl, ?_⟩) (by assumption) ?_; rotate_left; (· intro w' hSw; (try dsimp only at hSw); (try subst hSw); (try simp only [List.getElem_toArray, List.getElem_cons_zero, List.getElem_cons_succ]); go_simp; (try with_reducible rfl)); (try simp only [List.getElem_toArray, List.getElem_cons_zero, List.getElem_cons_succ]); (try dsimp only [Act.put]); (try simp only [List.setIfInBounds_toArray, List.set_cons_zero, List.set_cons_succ])
              change tailL _ _ _ _ _ _ _ _; refine ⟨by kernel_rfl, ?_⟩; simp only [List.drop_succ_cons, List.drop_zero]; go_wp2; go_meet; exact Lib.hid ((HMGd.out.set hcn ml mh).congr (g := mgP im i (cc + 1)) (fun x _ => by (unfold mgP; by_cases e : x = cc; (subst e; rw [if_pos rfl, if_pos (by omega), HNX.out]); (rw [if_neg e]; by_cases e2 : x < cc; (rw [if_pos e2, if_pos (by omega)]); (rw [if_neg e2, if_neg (by omega)])))))
          case rest =>
            rename World => V5
            clear HY x0 e0 e1 hxz hsz hob
            have HMG5 := Lib.hid hcut.out
            clear hcut
            generalize max (mgC im i cc).lo ((im i).ss cc).lo = ml at *
            generalize min (mgC im i cc).hi ((im i).ss cc).hi = mh at *
            rw [HNX.out] at HSUC
            dsimp only at HSUC
            obtain ⟨b0, b1⟩ := HMG5.out.box
            obtain ⟨p0, p1⟩ := HMG5.out.cell hcn
            have hpn : mgP im i (cc + 1) cc = ⟨ml, mh⟩ := by unfold mgP; rw [if_pos (by omega), HNX.out]
            rw [hpn] at p0 p1
            dsimp only at p0 p1
            have hobz := HMG5.out.lt
            have hcbz : cb < V5.heap.size := by have := HMG5.out.ord; omega
            clear hpn b1 HNX
            go_upto_region 10 with (fail)
            cases isb
            · rw [Bool.false_and] at HSUC
              ((refine wp_region_calm (V5.heap.size) (by kernel_rfl) (by kernel_rfl) ?_; (repeat (first | go_big_quiet_step (fail) | quiet_step (fail))); refine wpQuiet_nil ?_; intro _ hw'; obtain ⟨xq, hw''⟩ := hw'; subst hw''); have HMGq := Lib.hid (HMG5.out.step (Calm.below xq)); generalize Calm.val xq = wq at *; clear b0 p0 p1 HMG5 hobz hcbz; go_wp2; go_roundw; (case rel => first | exact ⟨cc + 1, by omega, by go_num, by rw [HSUC.out], HMGq⟩ | exact ⟨_, _, ⟨cc + 1, by omega, by go_num, by rw [HSUC.out], HMGq⟩, rfl⟩); (case measure => (simp [intOf]; omega)))
            · rw [Bool.true_and] at HSUC
              by_cases hle : ml ≤ mh
              · rw [decide_eq_true hle] at HSUC
                ((refine wp_region_calm (V5.heap.size) (by kernel_rfl) (by kernel_rfl) ?_; (repeat (first | go_big_quiet_step (fail) | quiet_step (fail))); refine wpQuiet_nil ?_; intro _ hw'; obtain ⟨xq, hw''⟩ := hw'; subst hw''); have HMGq := Lib.hid (HMG5.out.step (Calm.below xq)); generalize Calm.val xq = wq at *; clear b0 p0 p1 HMG5 hobz hcbz; go_wp2; go_roundw; (case rel => first | exact ⟨cc + 1, by omega, by go_num, by rw [HSUC.out], HMGq⟩ | exact ⟨_, _, ⟨cc + 1, by omega, by go_num, by rw [HSUC.out], HMGq⟩, rfl⟩); (case measure => (simp [intOf]; omega)))
              · rw [decide_eq_false hle] at HSUC
                ((refine wp_region_calm (V5.heap.size) (by kernel_rfl) (by kernel_rfl) ?_; (repeat (first | go_big_quiet_step (fail) | quiet_step (fail))); refine wpQuiet_nil ?_; intro _ hw'; obtain ⟨xq, hw''⟩ := hw'; subst hw''); have HMGq := Lib.hid (HMG5.out.step (Calm.below xq)); generalize Calm.val xq = wq at *; clear b0 p0 p1 HMG5 hobz hcbz; go_wp2; go_roundw; (case rel => first | exact ⟨cc + 1, by omega, by go_num, by rw [HSUC.out], HMGq⟩ | exact ⟨_, _, ⟨cc + 1, by omega, by go_num, by rw [HSUC.out], HMGq⟩, rfl⟩); (case measure => (simp [intOf]; omega)))
        · obtain rfl : cc = n := by omega
          have hcn' : ¬ (cc : Int) < (cc : Int) := by omega
          have HMG := Lib.hid (HY.out.congr (g := mgC im (i + 1)) (fun x hx => by unfold mgP; rw [if_pos hx]))
          obtain ⟨b0, b1⟩ := HY.out.box
          have hob := HY.out.lt
          clear HY b1
          generalize (ok && allUpto cc (fun x => decide ((mgC im (i + 1) x).lo ≤ (mgC im (i + 1) x).hi))) = okn at *
          go_wp2
          clear b0 hob
          go_loopw [8] (fun s8 wx => ∃ j : Nat, j ≤ (im i).bn ∧ s8 = .int .i64 (j : Int) ∧ Hid (∃ v L, L.map BM.strip = (mgB im i ++ (List.range j).map (im i).bs).map BM.strip ∧ MgI w cb ob cc cap (mgC im (i + 1)) v L wx)) (fun s8 _ => (im i).bn - (intOf s8).toNat)
          case atStart => exact ⟨0, Nat.zero_le _, rfl, Lib.hid ⟨_, _, by simpa using HST.out, HMG.out⟩⟩
          case round =>
            clear HMG HST
            obtain ⟨j, hj, rfl, HZ⟩ := hrel
            obtain ⟨v, L, hst, hmg⟩ := HZ.out
            clear HZ
            have HST := Lib.hid hst
            clear hst
            obtain ⟨yb, yo, hya, hyB, _, x1, _, yM⟩ := (HI2.out.below (hmg.below.mono hBw)).get hlt
            injection hya with hya
            injection hya with e1 e2 _
            subst e1 e2
            have hxz : xb < wr.heap.size := by have := hmg.below.size; omega
            have HMG := Lib.hid hmg
            clear hmg
            by_cases hjn : j < (im i).bn
            · have hjn' : (j : Int) < ((im i).bn : Int) := by omega
              have hsh := (ShapedI.shape (HSD.out i hlt)).1
              have hwn := hsh.wn j hjn
              have hm20 := hsh.m20
              have hst2 := hsh.set j hjn
              obtain ⟨bb, bo, hba, hbB, ⟨e0, e1, e2, e3⟩, hbm⟩ := yM.get hjn
              have HMEM := Lib.hid (hbm.up (show B ≤ wr.heap.size by have := HMG.out.below.size; omega))
              rw [hba] at x1
              have hbz : bb < wr.heap.size := by have := HMG.out.below.size; omega
              clear yM hbm hsh hba
              have HW := Lib.hid hwn
              have HSB := Lib.hid hst2
              clear hwn hst2
              have hn40' : (im i).cn ≤ 40 := by rw [(ShapedI.shape (HSD.out i hlt)).2]; exact hn40
              have hp40 := mg_setB HSB.out hn40'
              obtain ⟨p, hp⟩ : ∃ p, (im i).bs j = p := ⟨_, rfl⟩
              rw [hp] at e0 e1 e2 e3 HW HMEM hp40
              have HP := Lib.hid hp
              clear hp HSB hn40'
              obtain ⟨pca, pcn, pcc, pwa, pwn, pwc, plo, phi, pcs, pws⟩ := p
              dsimp only at e0 e1 e2 e3 hp40
              have hw40 : pwn ≤ 40 := by have := HW.out; dsimp only at this; omega
              have HMM := Lib.hid (show Ints wr.heap.size wr pca pcn pcs ∧ Ints wr.heap.size wr pwa pwn pws from HMEM.out.2.2)
              have HLE := Lib.hid (show L.length ≤ 1000 from by
                have h1 := congrArg List.length HST.out
                simp only [List.length_map, List.length_append, List.length_range] at h1
                have h2 := mgB_len im i (fun k hk => (ShapedI.shape (HSD.out k (by omega))).1.m20)
                have h3 := (ShapedI.shape (HSD.out i hlt)).1.m20
                omega)
              clear HMEM HW
              go_upto_block 5 with (fail)
              go_cut [9] from 92 to 115 (fun s9 wx => Hid (∃ v L', L'.map BM.strip = (mgB im i ++ (List.range (j + 1)).map (im i).bs).map BM.strip ∧ MgI w cb ob cc cap (mgC im (i + 1)) v L' wx))
              case first =>
                go_upto_region 15 with (fail)
                have hV6 := alloc_below wr (.cells #[.slice pca pcn pcc, .slice pwa pwn pwc, .int .i64 plo, .int .i64 phi] 57)
                have HQ := Lib.hid (heap_alloc_new wr (.cells #[.slice pca pcn pcc, .slice pwa pwn pwc, .int .i64 plo, .int .i64 phi] 57))
                have HBA := Lib.hid hV6
                clear hV6 e0 e1 e2 e3 hbz x1 hxz
                generalize World.alloc wr _ = V6 at *
                obtain ⟨q, hq⟩ : ∃ q, wr.heap.size = q := ⟨_, rfl⟩
                have HQE := Lib.hid hq
                rw [hq] at HQ HBA
                simp only [hq]
                clear hq
                refine wp_region_any (by kernel_rfl) ?_
                change wpAny _ _ _ _ _ _ _ (World.drew V6)
                have HQd := Lib.hid (show V6.drew.heap[q]? = _ from HQ.out)
                have HBd := Lib.hid (show Below q wr V6.drew from HBA.out.drew)
                have HOBd := Lib.hid (show V6.drew.heap[ob]? = _ from (HBA.out.block ob (by have := HMG.out.lt; have := HQE.out; omega)).trans HMG.out.out)
                clear HQ HBA
                have HQ := HQd
                have HBA := HBd
                have HOB := HOBd
                clear HQd HBd HOBd
                have HI1 := Lib.hid (fun (W : World) (hb : Below q wr W) => show Ints W.heap.size W pca pcn pcs from ints_up (HMM.out.1.below (HQE.out ▸ hb)) (by have := hb.size; have := HQE.out; omega))
                have HI3 := Lib.hid (fun (W : World) (hb : Below q wr W) => show Ints W.heap.size W pwa pwn pws from ints_up (HMM.out.2.below (HQE.out ▸ hb)) (by have := hb.size; have := HQE.out; omega))
                have hoq : ob < q := by have := HMG.out.lt; have := HQE.out; omega
                obtain ⟨jt, hjt, hk0, hk1, hk2⟩ := info_parts info_int
                obtain ⟨j0, hj0, hz0, hz1, hz2⟩ := info_parts mg_info_beam
                clear HMM
                generalize World.drew V6 = Vd at *
                refine any_of_tail 15 15 (fun w' => w'.cell? ⟨q, 0, none⟩ = some (.slice pca pcn pcc) ∧ w'.cell? ⟨q, 1, none⟩ = some (.slice pwa pwn pwc) ∧ w'.cell? ⟨q, 2, none⟩ = some (.int .i64 plo) ∧ w'.cell? ⟨q, 3, none⟩ = some (.int .i64 phi) ∧ w'.cell? ⟨ob, 1, none⟩ = some v) (by kernel_rfl) ⟨cell_of_row _ _ _ _ _ _ HQ.out, cell_of_row _ _ _ _ _ _ HQ.out, cell_of_row _ _ _ _ _ _ HQ.out, cell_of_row _ _ _ _ _ _ HQ.out, cell_of_row _ _ _ _ _ _ HOB.out⟩ (fun hS => ?_)
                refine headH_take (i := 0) (v := ?_) rfl (by kernel_rfl) (fun _ _ _ h => h) (Or.inl ⟨by rfl, ?_⟩) (by assumption) ?_; rotate_left; (· intro w' hSw; (try dsimp only at hSw); (obtain ⟨z0, z1, z2, z3, z4⟩ := hSw); (try simp only [List.getElem_toArray, List.getElem_cons_zero, List.getElem_cons_succ]); go_simp; (try with_reducible rfl)); (try simp only [List.getElem_toArray, List.getElem_cons_zero, List.getElem_cons_succ]); (try dsimp only [Act.put]); (try simp only [List.setIfInBounds_toArray, List.set_cons_zero, List.set_cons_succ])
                refine headH_take (i := 1) (v := ?_) rfl (by kernel_rfl) (fun _ _ _ h => h) (Or.inl ⟨by rfl, ?_⟩) (by assumption) ?_; rotate_left; (· intro w' hSw; (try dsimp only at hSw); (obtain ⟨z0, z1, z2, z3, z4⟩ := hSw); (try simp only [List.getElem_toArray, List.getElem_cons_zero, List.getElem_cons_succ]); go_simp; (try with_reducible rfl)); (try simp only [List.getElem_toArray, List.getElem_cons_zero, List.getElem_cons_succ]); (try dsimp only [Act.put]); (try simp only [List.setIfInBounds_toArray, List.set_cons_zero, List.set_cons_succ])
                refine headH_take (i := 2) (v := ?_) rfl (by kernel_rfl) (fun _ _ _ h => h) (Or.inl ⟨by rfl, ?_⟩) (by assumption) ?_; rotate_left; (· intro w' hSw; (try dsimp only at hSw); (obtain ⟨z0, z1, z2, z3, z4⟩ := hSw); (try simp only [List.getElem_toArray, List.getElem_cons_zero, List.getElem_cons_succ]); go_simp; (try with_reducible rfl)); (try simp only [List.getElem_toArray, List.getElem_cons_zero, List.getElem_cons_succ]); (try dsimp only [Act.put]); (try simp only [List.setIfInBounds_toArray, List.set_cons_zero, List.set_cons_succ])
                refine headH_take (i := 3) (v := ?_) rfl (by kernel_rfl) (fun _ _ _ h => h) (Or.inl ⟨by rfl, ?_⟩) (by assumption) ?_; rotate_left; (· intro w' hSw; (try dsimp only at hSw); (obtain ⟨z0, z1, z2, z3, z4⟩ := hSw); (try simp only [List.getElem_toArray, List.getElem_cons_zero, List.getElem_cons_succ]); go_simp; (try with_reducible rfl)); (try simp only [List.getElem_toArray, List.getElem_cons_zero, List.getElem_cons_succ]); (try dsimp only [Act.put]); (try simp only [List.setIfInBounds_toArray, List.set_cons_zero, List.set_cons_succ])
                refine headH_take (i := 5) (v := ?_) rfl (by kernel_rfl) (fun _ _ _ h => h) (Or.inl ⟨by rfl, ?_⟩) (by assumption) ?_; rotate_left; (· intro w' hSw; (try dsimp only at hSw); (obtain ⟨z0, z1, z2, z3, z4⟩ := hSw); (try simp only [List.getElem_toArray, List.getElem_cons_zero, List.getElem_cons_succ]); go_simp; (try with_reducible rfl)); (try simp only [List.getElem_toArray, List.getElem_cons_zero, List.getElem_cons_succ]); (try dsimp only [Act.put]); (try simp only [List.setIfInBounds_toArray, List.set_cons_zero, List.set_cons_succ])
                refine headH_take (i := 6) (v := ?_) rfl (by kernel_rfl) (fun _ _ _ h => h) (Or.inl ⟨by rfl, ?_⟩) (by assumption) ?_; rotate_left; (· intro w' hSw; (try dsimp only at hSw); (obtain ⟨z0, z1, z2, z3, z4⟩ := hSw); (try simp only [List.getElem_toArray, List.getElem_cons_zero, List.getElem_cons_succ]); go_simp; (try with_reducible rfl)); (try simp only [List.getElem_toArray, List.getElem_cons_zero, List.getElem_cons_succ]); (try dsimp only [Act.put]); (try simp only [List.setIfInBounds_toArray, List.set_cons_zero, List.set_cons_succ])
                refine headH_take (i := 8) (v := ?_) rfl (by kernel_rfl) (fun _ _ _ h => h) (Or.inl ⟨by rfl, ?_⟩) (by assumption) ?_; rotate_left; (· intro w' hSw; (try dsimp only at hSw); (obtain ⟨z0, z1, z2, z3, z4⟩ := hSw); (try simp only [List.getElem_toArray, List.getElem_cons_zero, List.getElem_cons_succ]); go_simp; (try with_reducible rfl)); (try simp only [List.getElem_toArray, List.getElem_cons_zero, List.getElem_cons_succ]); (try dsimp only [Act.put]); (try simp only [List.setIfInBounds_toArray, List.set_cons_zero, List.set_cons_succ])
                refine headH_take (i := 9) (v := ?_) rfl (by kernel_rfl) (fun _ _ _ h => h) (Or.inl ⟨by rfl, ?_⟩) (by assumption) ?_; rotate_left; (· intro w' hSw; (try dsimp only at hSw); (obtain ⟨z0, z1, z2, z3, z4⟩ := hSw); (try simp only [List.getElem_toArray, List.getElem_cons_zero, List.getElem_cons_succ]); go_simp; (try with_reducible rfl)); (try simp only [List.getElem_toArray, List.getElem_cons_zero, List.getElem_cons_succ]); (try dsimp only [Act.put]); (try simp only [List.setIfInBounds_toArray, List.set_cons_zero, List.set_cons_succ])
                refine headH_take (i := 10) (v := ?_) rfl (by kernel_rfl) (fun _ _ _ h => h) (Or.inl ⟨by rfl, ?_⟩) (by assumption) ?_; rotate_left; (· intro w' hSw; (try dsimp only at hSw); (obtain ⟨z0, z1, z2, z3, z4⟩ := hSw); (try simp only [List.getElem_toArray, List.getElem_cons_zero, List.getElem_cons_succ]); go_simp; (try with_reducible rfl)); (try simp only [List.getElem_toArray, List.getElem_cons_zero, List.getElem_cons_succ]); (try dsimp only [Act.put]); (try simp only [List.setIfInBounds_toArray, List.set_cons_zero, List.set_cons_succ])
                refine headH_take (i := 11) (v := ?_) rfl (by kernel_rfl) (fun _ _ _ h => h) (Or.inl ⟨by rfl, ?_⟩) (by assumption) ?_; rotate_left; (· intro w' hSw; (try dsimp only at hSw); (obtain ⟨z0, z1, z2, z3, z4⟩ := hSw); (try simp only [List.getElem_toArray, List.getElem_cons_zero, List.getElem_cons_succ]); go_simp; (try with_reducible rfl)); (try simp only [List.getElem_toArray, List.getElem_cons_zero, List.getElem_cons_succ]); (try dsimp only [Act.put]); (try simp only [List.setIfInBounds_toArray, List.set_cons_zero, List.set_cons_succ])
                refine headH_all (rs := [4]) (by kernel_rfl) (by simp) (by kernel_rfl) ?_; intro i0 hi0; simp only [List.mem_cons, List.not_mem_nil, or_false] at hi0; subst hi0
                refine headH_op rfl (fun K hK => ?_); refine step_append_src rfl _ _ 37 rfl (Vd).heap.size 3 jt (.int .i64 0) 1 8 Tryd.underlying37 hjt hk0 hk1 hk2 rfl (by decide) (.slice none 0 0) 0 [] rfl (World.ownsRow_nil _ _ _ _) pca pcn pcc (iC pcs pcn) rfl (by rw [iC_len, Nat.mul_one]) (mg_ints_src (HI1.out _ HBA.out)) iC_one (by unfold maxLen; omega) (by omega) (Nat.le_refl _) ?_; intro vv W1 hown hgrow; rw [Nat.zero_add, List.nil_append] at hown; obtain ⟨a1, c1, rfl⟩ := own_len hown; have hb : Below (Vd).heap.size Vd W1 := ⟨hgrow.os, hgrow.tape, hgrow.output, hgrow.size, fun b hb => hgrow.block b hb (by simp [Value.ownBlock])⟩; have hqA := (Array.getElem?_eq_some_iff.1 HQ.out).1; have hoA := (Array.getElem?_eq_some_iff.1 HOB.out).1; have N1 := Lib.hid (LX.clone hown hqA); (try (have NN := Lib.hid ((N2).out.step hb); clear N2; have N2 := NN; clear NN)); have HBn := Lib.hid (HBA.out.trans (hb.mono (Nat.le_of_lt hqA))); have HQn := Lib.hid ((hb.block _ hqA).trans HQ.out); have HOBn := Lib.hid ((hb.block _ hoA).trans HOB.out); clear HBA HQ HOB hown hgrow hb hqA hoA; have HBA := HBn; have HQ := HQn; have HOB := HOBn; clear HBn HQn HOBn; refine hK.out _ _ ⟨cell_of_row _ _ _ _ _ _ HQ.out, cell_of_row _ _ _ _ _ _ HQ.out, cell_of_row _ _ _ _ _ _ HQ.out, cell_of_row _ _ _ _ _ _ HQ.out, cell_of_row _ _ _ _ _ _ HOB.out⟩ (fun hS => ?_); clear hK K; (try simp only [List.getElem_toArray, List.getElem_cons_zero, List.getElem_cons_succ]); (try dsimp only [Act.put]); (try simp only [List.setIfInBounds_toArray, List.set_cons_zero, List.set_cons_succ])
                refine headH_all (rs := [7]) (by kernel_rfl) (by simp) (by kernel_rfl) ?_; intro i0 hi0; simp only [List.mem_cons, List.not_mem_nil, or_false] at hi0; subst hi0
                refine headH_op rfl (fun K hK => ?_); refine step_append_src rfl _ _ 37 rfl (W1).heap.size 3 jt (.int .i64 0) 1 8 Tryd.underlying37 hjt hk0 hk1 hk2 rfl (by decide) (.slice none 0 0) 0 [] rfl (World.ownsRow_nil _ _ _ _) pwa pwn pwc (iC pws pwn) rfl (by rw [iC_len, Nat.mul_one]) (mg_ints_src (HI3.out _ HBA.out)) iC_one (by unfold maxLen; omega) (by omega) (Nat.le_refl _) ?_; intro vv W2 hown hgrow; rw [Nat.zero_add, List.nil_append] at hown; obtain ⟨a2, c2, rfl⟩ := own_len hown; have hb : Below (W1).heap.size W1 W2 := ⟨hgrow.os, hgrow.tape, hgrow.output, hgrow.size, fun b hb => hgrow.block b hb (by simp [Value.ownBlock])⟩; have hqA := (Array.getElem?_eq_some_iff.1 HQ.out).1; have hoA := (Array.getElem?_eq_some_iff.1 HOB.out).1; have N2 := Lib.hid (LX.clone hown hqA); (try (have NN := Lib.hid ((N1).out.step hb); clear N1; have N1 := NN; clear NN)); have HBn := Lib.hid (HBA.out.trans (hb.mono (Nat.le_of_lt hqA))); have HQn := Lib.hid ((hb.block _ hqA).trans HQ.out); have HOBn := Lib.hid ((hb.block _ hoA).trans HOB.out); clear HBA HQ HOB hown hgrow hb hqA hoA; have HBA := HBn; have HQ := HQn; have HOB := HOBn; clear HBn HQn HOBn; refine hK.out _ _ ⟨cell_of_row _ _ _ _ _ _ HQ.out, cell_of_row _ _ _ _ _ _ HQ.out, cell_of_row _ _ _ _ _ _ HQ.out, cell_of_row _ _ _ _ _ _ HQ.out, cell_of_row _ _ _ _ _ _ HOB.out⟩ (fun hS => ?_); clear hK K; (try simp only [List.getElem_toArray, List.getElem_cons_zero, List.getElem_cons_succ]); (try dsimp only [Act.put]); (try simp only [List.setIfInBounds_toArray, List.set_cons_zero, List.set_cons_succ])
                (refine headH_take (i := 12) (v := ?_) rfl (by kernel_rfl) (fun _ _ _ h => h) (Or.inl ⟨by rfl, ?_⟩) (by assumption) ?_; rotate_left; (· intro w' hSw; (try dsimp only at hSw); (obtain ⟨z0, z1, z2, z3, z4⟩ := hSw); (try simp only [List.getElem_toArray, List.getElem_cons_zero, List.getElem_cons_succ]); go_simp; (try with_reducible rfl)); (try simp only [List.getElem_toArray, List.getElem_cons_zero, List.getElem_cons_succ]); (try dsimp only [Act.put]); (try simp only [List.setIfInBounds_toArray, List.set_cons_zero, List.set_cons_succ]); refine headH_all (rs := [13]) (by kernel_rfl) (by simp) (by kernel_rfl) ?_; intro i0 hi0; simp only [List.mem_cons, List.not_mem_nil, or_false] at hi0; subst hi0; refine headH_op rfl (fun K hK => ?_); (try simp only [List.getElem_toArray, List.getElem_cons_zero, List.getElem_cons_succ]); go_simp; have HMG7 := Lib.hid (HMG.out.step (show Below wr.heap.size wr W2 from HQE.out.symm ▸ HBA.out)); have HOW := Lib.hid (own_below HMG7.out.beams.own (alloc_below W2 (.cells #[.slice a1 pcn c1, .slice a2 pwn c2, .int .i64 plo, .int .i64 phi] 57))); have HOL := Lib.hid HMG7.out.beams.ownlt; have HOL0 := Lib.hid HMG.out.beams.ownlt; have HNW := Lib.hid (World.news_of_block (heap_alloc_new W2 (.cells #[.slice a1 pcn c1, .slice a2 pwn c2, .int .i64 plo, .int .i64 phi] 57))); have HA := Lib.hid (alloc_below W2 (.cells #[.slice a1 pcn c1, .slice a2 pwn c2, .int .i64 plo, .int .i64 phi] 57)); have hzA : ((W2).alloc (.cells #[.slice a1 pcn c1, .slice a2 pwn c2, .int .i64 plo, .int .i64 phi] 57)).heap.size = (W2).heap.size + 1 := (by simp); have hqA := (Array.getElem?_eq_some_iff.1 HQ.out).1; have hoA := (Array.getElem?_eq_some_iff.1 HOB.out).1; have HQn := Lib.hid ((HA.out.block _ hqA).trans HQ.out); have HOBn := Lib.hid ((HA.out.block _ hoA).trans HOB.out); clear HQ HOB; have HQ := HQn; have HOB := HOBn; clear HQn HOBn; obtain ⟨V8, hV8⟩ : ∃ V8, (W2).alloc (.cells #[.slice a1 pcn c1, .slice a2 pwn c2, .int .i64 plo, .int .i64 phi] 57) = V8 := ⟨_, rfl⟩; rw [hV8] at HOW HNW HA HQ HOB hzA; simp only [hV8]; have HV8 := Lib.hid hV8; clear hV8; refine hK.out _ _ ⟨cell_of_row _ _ _ _ _ _ HQ.out, cell_of_row _ _ _ _ _ _ HQ.out, cell_of_row _ _ _ _ _ _ HQ.out, cell_of_row _ _ _ _ _ _ HQ.out, cell_of_row _ _ _ _ _ _ HOB.out⟩ (fun hS => ?_); clear hK K; (try simp only [List.getElem_toArray, List.getElem_cons_zero, List.getElem_cons_succ]); (try dsimp only [Act.put]); (try simp only [List.setIfInBounds_toArray, List.set_cons_zero, List.set_cons_succ]); refine headH_all (rs := [14]) (by kernel_rfl) (by simp) (by kernel_rfl) ?_; intro i0 hi0; simp only [List.mem_cons, List.not_mem_nil, or_false] at hi0; subst hi0; refine headH_op rfl (fun K hK => ?_); have hb64 : L.length + 1 ≤ maxLen := Nat.le_trans (Nat.succ_le_succ HLE.out) (by decide); have hb48 : (L.length + 1) * 64 ≤ 140737488355328 := (by have := HLE.out; omega); refine step_append_lies _ rfl _ _ 26 rfl (ob + 1) 57 j0 _ 4 64 Tryd.underlying26 hj0 hz0 hz1 hz2 rfl (by decide) v L.length (bmC L) rfl HOW.out ⟨(W2).heap.size, 0, none⟩ 1 1 [.slice a1 pcn c1, .slice a2 pwn c2, .int .i64 plo, .int .i64 phi] rfl rfl HNW.out mg_beam_one (by decide) hb64 hb48 (by rw [hzA]; omega) _ rfl ?_; intro g1 cp V9 hown9 hgrow9 hat9 hlt9; have HQn := Lib.hid ((hgrow9.block q (by rw [hzA]; omega) (fun e => by have := (HOL0.out q e.symm).2; have := HQE.out; omega)).trans HQ.out); have HOBn := Lib.hid ((hgrow9.block ob (by rw [hzA]; omega) (fun e => by have := (HOL0.out ob e.symm).1; omega)).trans HOB.out); clear HQ HOB; have HQ := HQn; have HOB := HOBn; clear HQn HOBn; refine hK.out _ _ ⟨cell_of_row _ _ _ _ _ _ HQ.out, cell_of_row _ _ _ _ _ _ HQ.out, cell_of_row _ _ _ _ _ _ HQ.out, cell_of_row _ _ _ _ _ _ HQ.out, cell_of_row _ _ _ _ _ _ HOB.out⟩ (fun hS => ?_); clear hK K; (try simp only [List.getElem_toArray, List.getElem_cons_zero, List.getElem_cons_succ]); (try dsimp only [Act.put]); (try simp only [List.setIfInBounds_toArray, List.set_cons_zero, List.set_cons_succ]); change tailL _ _ _ _ _ _ _ _; refine ⟨by kernel_rfl, ?_⟩; simp only [List.drop_succ_cons, List.drop_zero]; have HPU := Lib.hid (HMG.out.push (W3 := W2) (W5 := V9) (x := ⟨a1, pcn, c1, a2, pwn, c2, plo, phi, pcs, pws⟩) (show Below wr.heap.size wr W2 from HQE.out.symm ▸ HBA.out) ⟨Nat.le_trans hp40 (by decide), N1.out.imp id (fun ⟨b, h1, h2, h3, h4⟩ => ⟨b, h1, by have := HQE.out; omega, h3, h4⟩)⟩ ⟨Nat.le_trans hw40 (by decide), N2.out.imp id (fun ⟨b, h1, h2, h3, h4⟩ => ⟨b, h1, by have := HQE.out; omega, h3, h4⟩)⟩ hown9 (HV8.out.symm ▸ hgrow9) (HV8.out.symm ▸ hat9)); have HS2 := Lib.hid (show (L ++ [(⟨a1, pcn, c1, a2, pwn, c2, plo, phi, pcs, pws⟩ : BM)]).map BM.strip = (mgB im i ++ (List.range (j + 1)).map (im i).bs).map BM.strip from (by rw [List.map_append, HST.out, List.range_succ]; simp only [List.map_append, List.map_cons, List.map_nil, List.append_assoc, HP.out]; rfl)); have b1 : V9.cell? ⟨ob, 1, none⟩ = some v := cell_of_row _ _ _ _ _ _ HOB.out; have f1 : V9.frozen? ⟨ob, 1, none⟩ = false := frozen_of_row _ _ _ _ _ HOB.out; clear hown9 hgrow9 hat9 hlt9; go_wp2; go_meet; exact Lib.hid ⟨_, _, HS2.out, HPU.out⟩)
              case rest =>
                clear HMM HMG HST e0 e1 e2 e3 x1 hxz hbz
                go_wp2
                go_roundw
                case rel => first | exact ⟨j + 1, by omega, by go_num, hcut⟩ | exact ⟨_, ⟨j + 1, by omega, by go_num, hcut⟩, rfl⟩
                case measure => simp [intOf]; omega
            · obtain rfl : j = (im i).bn := by omega
              have hjn' : ¬ ((im i).bn : Int) < ((im i).bn : Int) := by omega
              clear yM
              go_wp2
              go_roundw
              case rel => first | exact ⟨i + 1, by omega, by go_num, by rw [HOKS.out], Lib.hid ⟨v, L, HST.out, HMG.out⟩⟩ | exact ⟨_, _, ⟨i + 1, by omega, by go_num, by rw [HOKS.out], Lib.hid ⟨v, L, HST.out, HMG.out⟩⟩, rfl⟩
              case measure => simp [intOf]; omega
    · obtain rfl : t = i := by omega
      have hlt' : ¬ (t : Int) < (t : Int) := by omega
      obtain ⟨oa, oc, rfl⟩ := own_len hmg.beams.own
      have hLM : L.length ≤ maxLen := by
        have h1 := congrArg List.length hst
        simp only [List.length_map] at h1
        have h2 := mgB_len im t (fun k hk => (ShapedI.shape (HSD.out k (by omega))).1.m20)
        unfold maxLen
        omega
      have HFN := Lib.hid (hmg.fin hn40 hLM (.slice (some ⟨cb, 0, none⟩) n cap) (.slice oa L.length oc))
      obtain ⟨b0, b1⟩ := hmg.box
      have hobz := hmg.lt
      clear hst hmg HX
      (have hrb := HMG.out.res; have q0 : wr.cell? ⟨w.heap.size, 0, none⟩ = some (.slice none 0 0) := cell_of_row _ _ _ _ _ _ hrb; have q1 : wr.cell? ⟨w.heap.size, 1, none⟩ = some (.slice none 0 0) := cell_of_row _ _ _ _ _ _ hrb; have f0 : wr.frozen? ⟨w.heap.size, 0, none⟩ = false := frozen_of_row _ _ _ _ _ hrb; have f1 : wr.frozen? ⟨w.heap.size, 1, none⟩ = false := frozen_of_row _ _ _ _ _ hrb; have HRX := Lib.hid hrb; have HBZ := Lib.hid ((HMG.out.below).setCell (p := ⟨w.heap.size, 0, none⟩) (Nat.le_refl _) (.slice (some ⟨cb, 0, none⟩) n cap) |>.setCell (p := ⟨w.heap.size, 1, none⟩) (Nat.le_refl _) (.slice oa L.length oc)); clear hrb; go_wp2; have h1 := heap_setCell_same wr w.heap.size 0 _ _ (.slice (some ⟨cb, 0, none⟩) n cap) HRX.out; have h2 := heap_setCell_same _ w.heap.size 1 _ _ (.slice oa L.length oc) h1; have r0 : ((wr.setCell ⟨w.heap.size, 0, none⟩ (.slice (some ⟨cb, 0, none⟩) n cap)).setCell ⟨w.heap.size, 1, none⟩ (.slice oa L.length oc)).cell? ⟨w.heap.size, 0, none⟩ = some (.slice (some ⟨cb, 0, none⟩) n cap) := cell_of_row _ _ _ _ _ _ h2; have r1 : ((wr.setCell ⟨w.heap.size, 0, none⟩ (.slice (some ⟨cb, 0, none⟩) n cap)).setCell ⟨w.heap.size, 1, none⟩ (.slice oa L.length oc)).cell? ⟨w.heap.size, 1, none⟩ = some (.slice oa L.length oc) := cell_of_row _ _ _ _ _ _ h2; have HE2 := HE.out _ cb cap oa oc L HST.out HFN.out HBZ.out; clear h1 h2 HFN; generalize World.setCell (World.setCell wr _ _) _ _ = wf at *; generalize mgOk n im t = okr at *; refine bodyPost_ret (v := .tuple #[.agg #[.slice (some ⟨cb, 0, none⟩) n cap, .slice oa L.length oc], .bool okr]) (by simp [results, Tryd.results9, go_sem, r0, r1]) rfl ?_; exact HE2)
end Go.Proofs.YtnfigielhnnpnaaDoor
