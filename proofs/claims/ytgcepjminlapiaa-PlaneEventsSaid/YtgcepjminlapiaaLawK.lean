/- The statement PlaneEvents: its walk. -/
import Derived.Test.YtgcepjminlapiaaEvH
import Derived.Test.YtgcepjminlapiaaAlignA
import Derived.Test.YtgcepjminlapiaaOpenH
import Derived.Test.YtgcepjminlapiaaLawD
import Derived.Test.YtgcepjminlapiaaKnown
namespace Go.Proofs.Ytgcepjminlapiaa
open Go.RowKit
set_option linter.unusedVariables false
set_option linter.unusedSimpArgs false
theorem Lists.below {B : Nat} {w w' : World} {a : Option Addr} {ls : List (List Nat)} (h : Lists B w a ls) (hb : Below B w w') : Lists B w' a ls := by
  rcases h with h | ⟨b, off, ha, hB, hc⟩
  · exact .inl h
  · refine .inr ⟨b, off, ha, hB, fun j l hl => ?_⟩
    obtain ⟨g, c, h1, h2, h3⟩ := hc j l hl
    exact ⟨g, c, ((bcell hb).1 _ _ hB).trans h1, h2, fun i hi => ((bcell hb).1 _ _ h2).trans (h3 i hi)⟩
theorem Lists.up {B B' : Nat} {w : World} {a : Option Addr} {ls : List (List Nat)} (h : Lists B w a ls) (hb : B ≤ B') : Lists B' w a ls := by
  rcases h with h | ⟨b, off, ha, hB, hc⟩
  · exact .inl h
  · refine .inr ⟨b, off, ha, by omega, fun j l hl => ?_⟩
    obtain ⟨g, c, h1, h2, h3⟩ := hc j l hl
    exact ⟨g, c, h1, by omega, h3⟩
set_option maxRecDepth 100000 in
set_option maxHeartbeats 1000000 in
theorem SameLists_same (a b : Option Addr) (n c d : Nat) (ls : List (List Nat)) (hn : ls.length = n) (hm : n ≤ 2000) (hl : ∀ l ∈ ls, l.length ≤ 2000) (w : World) (B : Nat) (hBw : B ≤ w.heap.size) (hf : Lists B w a ls) (hg : Lists B w b ls) :
    Calls Try.prog 45 #[.slice a n c, .slice b n d] w fun e w' => e = .returned (.bool true) ∧ Below w.heap.size w w' := by
  have HFa := Lib.hid hf
  have HGa := Lib.hid hg
  have HN := Lib.hid hn
  have HL := Lib.hid hl
  clear hf hg hn hl
  go_enter Try.func45, Try.ntmps45
  go_wp2
  go_loopw [5] (fun t wr => ∃ k : Nat, k ≤ n ∧ t = .int .i64 (k : Int) ∧ Below w.heap.size w wr) (fun t _ => n - (intOf t).toNat)
  case atStart => exact ⟨0, Nat.zero_le _, rfl, Below.refl _ _⟩
  case round =>
    obtain ⟨k, hk, rfl, hb⟩ := hrel
    by_cases hlt : k < n
    · have hlt' : (k : Int) < (n : Int) := by omega
      obtain ⟨l, hl⟩ : ∃ l, ls[k]? = some l := ⟨_, List.getElem?_eq_getElem (by rw [HN.out]; exact hlt)⟩
      rcases HFa.out.below (hb.mono hBw) with e0 | ⟨b1, o1, rfl, hb1, hc1⟩
      · rw [HN.out] at e0; omega
      rcases HGa.out.below (hb.mono hBw) with e0 | ⟨b2, o2, rfl, hb2, hc2⟩
      · rw [HN.out] at e0; omega
      obtain ⟨g1, q1, c0, hg1, hi1⟩ := hc1 k l hl
      obtain ⟨g2, q2, d0, hg2, hi2⟩ := hc2 k l hl
      have hz := hb.size
      have l1 : b1 < wr.heap.size := by omega
      have l2 : b2 < wr.heap.size := by omega
      have hll := HL.out l (List.mem_of_getElem? hl)
      have hBr : B ≤ wr.heap.size := by omega
      have HI1 := Lib.hid (show Ints B wr (some ⟨g1, 0, none⟩) l.length (fun i => ((l.getD i 0 : Nat) : Int)) from .inr ⟨g1, 0, rfl, hg1, fun i hi => by rw [Nat.zero_add]; exact hi1 i hi⟩)
      have HI2 := Lib.hid (show Ints B wr (some ⟨g2, 0, none⟩) l.length (fun i => ((l.getD i 0 : Nat) : Int)) from .inr ⟨g2, 0, rfl, hg2, fun i hi => by rw [Nat.zero_add]; exact hi2 i hi⟩)
      have HSM := Lib.hid (fun (X : Calm wr.heap.size wr) => Same_same (some ⟨g1, 0, none⟩) (some ⟨g2, 0, none⟩) l.length q1 q2 (fun i => ((l.getD i 0 : Nat) : Int)) X.val B (Nat.le_trans hBr X.below.size) (HI1.out.below (X.below.mono hBr)) (HI2.out.below (X.below.mono hBr)) (by unfold maxLen; omega))
      have HBX := Lib.hid (fun (X : Calm wr.heap.size wr) => hb.trans (X.below.mono hz))
      clear hi1 hi2 hc1 hc2 HI1 HI2 hl
      go_upto_region 6 with (fail)
      (refine wp_region_calm (wr.heap.size) (by kernel_rfl) (by kernel_rfl) ?_; (repeat (first | go_big_quiet_step ((go_at_call 77; exact Calls.calm_of (Nat.le_refl _) (HSM.out _))) | quiet_step ((go_at_call 77; exact Calls.calm_of (Nat.le_refl _) (HSM.out _))))); refine wpQuiet_nil ?_; intro _ hw'; obtain ⟨xq, hw''⟩ := hw'; subst hw'')
      go_wp2
      go_roundw
      case rel => exact ⟨k + 1, by omega, by go_num, HBX.out xq⟩
      case measure => simp [intOf]; omega
    · have hlt' : ¬ (k : Int) < (n : Int) := by omega
      go_wp2
      go_ret
      exact ⟨rfl, hb⟩
set_option maxRecDepth 100000 in
set_option maxHeartbeats 1000000 in
theorem PE_out (a : Option Addr) (n c : Nat) (ps : Nat → PR) (ha : Option Addr) (m d : Nat) (hs : Nat → HV) (w : World) (B : Nat) (hBw : B ≤ w.heap.size) (hP : Planes B w a n ps) (hm : m ≤ maxLen) (hO : smallB n ps = false ∨ (30 < m ∧ m ≤ 2000) ∨ 2010 < m) :
    Calls Try.prog 13 #[setupV a n c, .slice ha m d] w fun e w' => e = .returned (.bool true) ∧ Below w.heap.size w w' := by
  have HP := Lib.hid hP
  unfold maxLen at hm
  clear hP
  cases hsm : smallB n ps
  · clear hO
    go_enter Try.func13, Try.ntmps13
    go_wp2_with (first | (go_at_call 15; refine (small_any a n c ps _ B (by simp; omega) (HP.out.below ((Below.refl B w).alloc hBw _))).mono ?_; rintro e wy ⟨rfl, hby⟩; rw [hsm]; obtain ⟨l0, l1, l2, l3⟩ := LF_step LF_start hby; clear hby) | (go_at_call 16; refine (lawKnown_any _).mono ?_; rintro e wy ⟨rfl, hby⟩; have hL := LF_step ⟨l0, l1, l2, l3⟩ hby; clear l0 l1 l2 l3; obtain ⟨l0, l1, l2, l3⟩ := hL; clear hby))
    go_ret
    exact ⟨rfl, l3⟩
  · rcases hO with h | ⟨h1, h2⟩ | h
    · rw [hsm] at h; cases h
    · have h1' : (30 : Int) < (m : Int) := by omega
      have h2' : (m : Int) ≤ 2000 := by omega
      go_enter Try.func13, Try.ntmps13
      go_wp2_with (first | (go_at_call 15; refine (small_any a n c ps _ B (by simp; omega) (HP.out.below ((Below.refl B w).alloc hBw _))).mono ?_; rintro e wy ⟨rfl, hby⟩; rw [hsm]; obtain ⟨l0, l1, l2, l3⟩ := LF_step LF_start hby; clear hby) | (go_at_call 16; refine (lawKnown_any _).mono ?_; rintro e wy ⟨rfl, hby⟩; have hL := LF_step ⟨l0, l1, l2, l3⟩ hby; clear l0 l1 l2 l3; obtain ⟨l0, l1, l2, l3⟩ := hL; clear hby))
      go_ret
      exact ⟨rfl, l3⟩
    · have h1' : (30 : Int) < (m : Int) := by omega
      have h2' : ¬ (m : Int) ≤ 2000 := by omega
      have h3' : (2010 : Int) < (m : Int) := by omega
      go_enter Try.func13, Try.ntmps13
      go_wp2_with (first | (go_at_call 15; refine (small_any a n c ps _ B (by simp; omega) (HP.out.below ((Below.refl B w).alloc hBw _))).mono ?_; rintro e wy ⟨rfl, hby⟩; rw [hsm]; obtain ⟨l0, l1, l2, l3⟩ := LF_step LF_start hby; clear hby) | (go_at_call 16; refine (lawKnown_any _).mono ?_; rintro e wy ⟨rfl, hby⟩; have hL := LF_step ⟨l0, l1, l2, l3⟩ hby; clear l0 l1 l2 l3; obtain ⟨l0, l1, l2, l3⟩ := hL; clear hby))
      go_ret
      exact ⟨rfl, l3⟩
set_option maxRecDepth 100000 in
set_option maxHeartbeats 1000000 in
theorem PE_long (a : Option Addr) (n c : Nat) (ps : Nat → PR) (ha : Option Addr) (m d : Nat) (hs : Nat → HV) (w : World) (B : Nat) (hBw : B ≤ w.heap.size) (hP : Planes B w a n ps) (hH : Hits B w ha m hs) (hsm : smallB n ps = true) (h1 : 2000 < m) (h2 : m ≤ 2010) : Calls Try.prog 13 #[setupV a n c, .slice ha m d] w fun e w' => e = .returned (.bool true) ∧ Below w.heap.size w w' := by
  have HP := Lib.hid hP
  have HH := Lib.hid hH
  have hE : allE n ps m hs = 3 := by rw [allE, if_pos h1]
  have HC := Lib.hid (show ∀ W, B ≤ W.heap.size → Planes B W a n ps → Hits B W ha m hs → Calls Try.prog 44 #[setupV a n c, .slice ha m d] W (fun e w' => e = .returned (.tuple #[.slice none 0 0, .int .i64 3]) ∧ Below W.heap.size W w') from fun W hW hPl hHi => by
    have := Events_bad a n c ps ha m d hs W B hW hPl hHi (by rw [hE]; decide)
    rw [hE] at this
    exact this)
  clear hP hH hE
  have h1' : (30 : Int) < (m : Int) := by omega
  have h2' : ¬ (m : Int) ≤ 2000 := by omega
  have h3' : ¬ (2010 : Int) < (m : Int) := by omega
  have h4' : (2000 : Int) < (m : Int) := by omega
  go_enter Try.func13, Try.ntmps13
  go_wp2_with (first | (go_at_call 15; refine (small_any a n c ps _ B (by simp; omega) (HP.out.below ((Below.refl B w).alloc hBw _))).mono ?_; rintro e wy ⟨rfl, hby⟩; rw [hsm]; obtain ⟨l0, l1, l2, l3⟩ := LF_step LF_start hby; clear hby) | (go_at_call 16; refine (lawKnown_any _).mono ?_; rintro e wy ⟨rfl, hby⟩; have hL := LF_step ⟨l0, l1, l2, l3⟩ hby; clear l0 l1 l2 l3; obtain ⟨l0, l1, l2, l3⟩ := hL; clear hby) | (go_at_call 44; refine (HC.out _ (by omega) (HP.out.below (l3.mono hBw)) (HH.out.below (l3.mono hBw))).mono ?_; rintro e wy ⟨rfl, hby⟩; have hL := LF_step ⟨l0, l1, l2, l3⟩ hby; clear l0 l1 l2 l3; obtain ⟨l0, l1, l2, l3⟩ := hL; clear hby))
  go_ret
  exact ⟨rfl, l3⟩
def feB (n : Nat) (ps : Nat → PR) (hs : Nat → HV) (i : Nat) : Bool := checkB n ps && allUpto i (fun j => ofB n ps (hs j))
theorem feB_succ {n : Nat} {ps : Nat → PR} {hs : Nat → HV} (i : Nat) : feB n ps hs (i + 1) = (feB n ps hs i && ofB n ps (hs i)) := by
  simp [feB, allUpto, List.range_succ, List.all_append, Bool.and_assoc]
theorem feB_end {n : Nat} {ps : Nat → PR} {m : Nat} {hs : Nat → HV} {i : Nat} (hi : i ≤ m) (h : feB n ps hs i = false) : feB n ps hs m = false := by
  cases hm : feB n ps hs m
  · rfl
  · simp only [feB, Bool.and_eq_true, allUpto_iff] at hm
    have : feB n ps hs i = true := by
      simp only [feB, Bool.and_eq_true, allUpto_iff]
      exact ⟨hm.1, fun j hj => hm.2 j (by omega)⟩
    rw [h] at this; cases this
theorem feB_check {n : Nat} {ps : Nat → PR} {hs : Nat → HV} {i : Nat} (h : feB n ps hs i = true) : checkB n ps = true := by
  simp only [feB, Bool.and_eq_true] at h; exact h.1
set_option maxRecDepth 100000 in
set_option maxHeartbeats 1500000 in
theorem PE_bad (a : Option Addr) (n c : Nat) (ps : Nat → PR) (ha : Option Addr) (m d : Nat) (hs : Nat → HV) (w : World) (B : Nat) (hBw : B ≤ w.heap.size) (hP : Planes B w a n ps) (hH : Hits B w ha m hs) (hsm : smallB n ps = true) (h1 : m ≤ 30) (hF : feB n ps hs m = false) : Calls Try.prog 13 #[setupV a n c, .slice ha m d] w fun e w' => e = .returned (.bool true) ∧ Below w.heap.size w w' := by
  have HP := Lib.hid hP
  have HH := Lib.hid hH
  have hE : allE n ps m hs = 2 := by
    have hb : hitsB n ps m hs = false := hF
    rw [allE, if_neg (by omega), hb]; rfl
  have HC := Lib.hid (show ∀ W, B ≤ W.heap.size → Planes B W a n ps → Hits B W ha m hs → Calls Try.prog 44 #[setupV a n c, .slice ha m d] W (fun e w' => e = .returned (.tuple #[.slice none 0 0, .int .i64 2]) ∧ Below W.heap.size W w') from fun W hW hPl hHi => by
    have := Events_bad a n c ps ha m d hs W B hW hPl hHi (by rw [hE]; decide)
    rw [hE] at this
    exact this)
  (have HF0 := Lib.hid (show feB n ps hs 0 = checkB n ps by simp [feB, allUpto]); have HFs := Lib.hid (fun i => @feB_succ n ps hs i); have HFe := Lib.hid (fun i hi h => @feB_end n ps m hs i hi h); have HFc := Lib.hid (fun i h => @feB_check n ps hs i h); have h1' : ¬ (30 : Int) < (m : Int) := (by omega); have h3' : ¬ (2010 : Int) < (m : Int) := (by omega); have h4' : ¬ (2000 : Int) < (m : Int) := (by omega))
  have HFM := Lib.hid hF
  generalize feB n ps hs = FB at *
  clear hP hH hE hF
  go_enter Try.func13, Try.ntmps13
  go_upto_region 7 with (first | (go_at_call 15; refine (small_any a n c ps _ B (by simp; omega) (HP.out.below ((Below.refl B w).alloc hBw _))).mono ?_; rintro e wy ⟨rfl, hby⟩; rw [hsm]; obtain ⟨l0, l1, l2, l3⟩ := LF_step LF_start hby; clear hby) | (go_at_call 44; refine (HC.out _ (by omega) (HP.out.below (l3.mono hBw)) (HH.out.below (l3.mono hBw))).mono ?_; rintro e wy ⟨rfl, hby⟩; have hL := LF_step ⟨l0, l1, l2, l3⟩ hby; clear l0 l1 l2 l3; obtain ⟨l0, l1, l2, l3⟩ := hL; clear hby) | (go_at_call 19; refine (refSetup_any a n c ps _ B (by omega) (HP.out.below (l3.mono hBw))).mono ?_; rintro e wy ⟨rfl, hby⟩; rw [← HF0.out]; have hbys := hby; have hL := LF_step ⟨l0, l1, l2, l3⟩ hby; clear l0 l1 l2 l3; obtain ⟨l0, l1, l2, l3⟩ := hL; clear hby))
  clear hbys
  go_wp2
  go_loopw [8, 7] (fun t s7 wr => ∃ i : Nat, i ≤ m ∧ t = .int .i64 (i : Int) ∧ s7 = .bool (FB i) ∧ LF a n c w wr) (fun t _ _ => m - (intOf t).toNat)
  case atStart => exact ⟨0, Nat.zero_le _, rfl, rfl, l0, l1, l2, l3⟩
  case round =>
    clear l0 l1 l2 l3
    obtain ⟨i, hi, rfl, rfl, l0, l1, l2, l3⟩ := hrel
    cases hFi : FB i
    · by_cases hlt : i < m
      · have hlt' : (i : Int) < (m : Int) := by omega
        go_wp2_with (go_at_call 16; refine (lawKnown_any _).mono ?_; rintro e wy ⟨rfl, hby⟩; have hL := LF_step ⟨l0, l1, l2, l3⟩ hby; clear l0 l1 l2 l3; obtain ⟨l0, l1, l2, l3⟩ := hL; clear hby)
        go_ret
        exact ⟨rfl, l3⟩
      · have hlt' : ¬ (i : Int) < (m : Int) := by omega
        go_wp2_with (go_at_call 16; refine (lawKnown_any _).mono ?_; rintro e wy ⟨rfl, hby⟩; have hL := LF_step ⟨l0, l1, l2, l3⟩ hby; clear l0 l1 l2 l3; obtain ⟨l0, l1, l2, l3⟩ := hL; clear hby)
        go_ret
        exact ⟨rfl, l3⟩
    · by_cases hlt : i < m
      · (have hC := HFc.out i hFi; have HFS := Lib.hid (show FB (i + 1) = ofB n ps (hs i) by rw [HFs.out, hFi, Bool.true_and]); obtain ⟨b, off, rfl, hbB, y0, y1, y2, y3, y4, y5⟩ := (HH.out.below (l3.mono hBw)).get hlt; have hbz : b < wr.heap.size := (by omega); have HCk := Lib.hid hC; clear hC; generalize hgg : hs i = h at y0 y1 y2 y3 y4 y5 HFS; clear hgg; go_upto_region 10 with (fail); (refine wp_region_calm (wr.heap.size) (by kernel_rfl) (by kernel_rfl) ?_; (repeat (first | go_big_quiet_step ((go_at_call 20; refine Calls.calm_of (Nat.le_refl _) (refHit_any a n c ps h _ B ?_ ?_ HCk.out); (· (have := Below.size (Calm.below (by assumption)); omega)); (· exact (HP.out.below (l3.mono hBw)).below (Below.mono (Calm.below _) (by omega))))) | quiet_step ((go_at_call 20; refine Calls.calm_of (Nat.le_refl _) (refHit_any a n c ps h _ B ?_ ?_ HCk.out); (· (have := Below.size (Calm.below (by assumption)); omega)); (· exact (HP.out.below (l3.mono hBw)).below (Below.mono (Calm.below _) (by omega))))))); refine wpQuiet_nil ?_; intro _ hw'; obtain ⟨xq, hw''⟩ := hw'; subst hw''))
        have hL := LF_step ⟨l0, l1, l2, l3⟩ xq.below
        clear l0 l1 l2 l3
        obtain ⟨l0, l1, l2, l3⟩ := hL
        go_wp2
        go_roundw
        case rel => exact ⟨i + 1, by omega, by go_num, by rw [HFS.out], l0, l1, l2, l3⟩
        case measure => simp [intOf]; omega
      · obtain rfl : i = m := by omega
        rw [HFM.out] at hFi
        cases hFi
set_option maxRecDepth 100000 in
set_option maxHeartbeats 1500000 in
theorem PE_ok (a : Option Addr) (n c : Nat) (ps : Nat → PR) (ha : Option Addr) (m d : Nat) (hs : Nat → HV) (w : World) (B : Nat) (hBw : B ≤ w.heap.size) (hP : Planes B w a n ps) (hH : Hits B w ha m hs) (hsm : smallB n ps = true) (h1 : m ≤ 30) (hF : feB n ps hs m = true) : Calls Try.prog 13 #[setupV a n c, .slice ha m d] w fun e w' => e = .returned (.bool true) ∧ Below w.heap.size w w' := by
  have HP := Lib.hid hP
  have HH := Lib.hid hH
  have hb : hitsB n ps m hs = true := hF
  have hE : allE n ps m hs = 0 := by rw [allE, if_neg (by omega), hb]; rfl
  simp only [hitsB, Bool.and_eq_true, allUpto_iff] at hb
  have HC := Lib.hid (show ∀ W, B ≤ W.heap.size → Planes B W a n ps → Hits B W ha m hs → Calls Try.prog 44 #[setupV a n c, .slice ha m d] W (EvRes W m (tlOf ps hs) (thOf ps hs) (filmOf ps hs)) from fun W hW hPl hHi => Events_ok a n c ps ha m d hs W B hW hPl hHi hE)
  have HRE := Lib.hid (fun (W : World) (hW : B ≤ W.heap.size) (hPl : Planes B W a n ps) (hHi : Hits B W ha m hs) (cs : List (List Nat)) (hcs : AllSwept m (tlOf ps hs) (thOf ps hs) (filmOf ps hs) cs) => refEvents_any a n c ps ha m d hs W B hW hPl hHi hb.1 hb.2 (by omega) cs hcs)
  (have HF0 := Lib.hid (show feB n ps hs 0 = checkB n ps by simp [feB, allUpto]); have HFs := Lib.hid (fun i => @feB_succ n ps hs i); have HFe := Lib.hid (fun i hi h => @feB_end n ps m hs i hi h); have HFc := Lib.hid (fun i h => @feB_check n ps hs i h); have h1' : ¬ (30 : Int) < (m : Int) := (by omega); have h3' : ¬ (2010 : Int) < (m : Int) := (by omega); have h4' : ¬ (2000 : Int) < (m : Int) := (by omega))
  have HFM := Lib.hid hF
  generalize feB n ps hs = FB at *
  clear hP hH hE hF hb
  go_enter Try.func13, Try.ntmps13
  go_upto_region 4 with (first | (go_at_call 15; refine (small_any a n c ps _ B (by simp; omega) (HP.out.below ((Below.refl B w).alloc hBw _))).mono ?_; rintro e wy ⟨rfl, hby⟩; rw [hsm]; obtain ⟨l0, l1, l2, l3⟩ := LF_step LF_start hby; clear hby) | (go_at_call 44; refine (HC.out _ (by omega) (HP.out.below (l3.mono hBw)) (HH.out.below (l3.mono hBw))).mono ?_; rintro e wy ⟨cs, xa, xc, hcs, rfl, hls, hby⟩; have HCS := Lib.hid hcs; have HLS := Lib.hid hls; have hml := hcs.many; have HBL := Lib.hid (fun (l : List Nat) (hl : l ∈ cs.map (byNumber m)) => show l.length ≤ 2000 from by obtain ⟨c9, _, rfl⟩ := List.mem_map.1 hl; exact Nat.le_trans (evL_len c9 m) (by omega)); have hL := LF_step ⟨l0, l1, l2, l3⟩ hby; clear l0 l1 l2 l3; obtain ⟨l0, l1, l2, l3⟩ := hL; clear hby hcs hls))
  have HLL := Lib.hid (show (cs.map (byNumber m)).length = cs.length by simp)
  obtain ⟨N, hN⟩ : ∃ N, N = cs.length := ⟨_, rfl⟩
  rw [← hN] at hml ⊢
  rw [← hN] at HLL
  have HNN := Lib.hid hN
  have HLX := Lib.hid (show Lists wy.heap.size wy xa (cs.map (byNumber m)) from HLS.out)
  clear hN HLS
  obtain ⟨wE, hwE⟩ : ∃ wE, wE = wy := ⟨_, rfl⟩
  rw [← hwE] at HLX
  have HXB := Lib.hid (show Below wE.heap.size wE wy from by rw [hwE]; exact Below.refl _ _)
  clear hwE
  go_upto_region 7 with (go_at_call 19; refine (refSetup_any a n c ps _ B (by omega) (HP.out.below (l3.mono hBw))).mono ?_; rintro e wy ⟨rfl, hby⟩; rw [← HF0.out]; have hbys := hby; have hL := LF_step ⟨l0, l1, l2, l3⟩ hby; clear l0 l1 l2 l3; obtain ⟨l0, l1, l2, l3⟩ := hL; clear hby)
  have HXB2 := Lib.hid (HXB.out.trans (hbys.mono HXB.out.size))
  clear HXB hbys
  go_wp2
  go_loopw [8, 7] (fun t s7 wr => ∃ i : Nat, i ≤ m ∧ t = .int .i64 (i : Int) ∧ s7 = .bool (FB i) ∧ LF a n c w wr ∧ Hid (Below wE.heap.size wE wr)) (fun t _ _ => m - (intOf t).toNat)
  case atStart => exact ⟨0, Nat.zero_le _, rfl, rfl, ⟨l0, l1, l2, l3⟩, HXB2⟩
  case round =>
    clear l0 l1 l2 l3 HXB2
    obtain ⟨i, hi, rfl, rfl, ⟨l0, l1, l2, l3⟩, HXB⟩ := hrel
    cases hFi : FB i
    · have hFm := HFe.out i hi hFi
      rw [HFM.out] at hFm
      cases hFm
    · by_cases hlt : i < m
      · (have hC := HFc.out i hFi; have HFS := Lib.hid (show FB (i + 1) = ofB n ps (hs i) by rw [HFs.out, hFi, Bool.true_and]); obtain ⟨b, off, rfl, hbB, y0, y1, y2, y3, y4, y5⟩ := (HH.out.below (l3.mono hBw)).get hlt; have hbz : b < wr.heap.size := (by omega); have HCk := Lib.hid hC; clear hC; generalize hgg : hs i = h at y0 y1 y2 y3 y4 y5 HFS; clear hgg; go_upto_region 10 with (fail); (refine wp_region_calm (wr.heap.size) (by kernel_rfl) (by kernel_rfl) ?_; (repeat (first | go_big_quiet_step ((go_at_call 20; refine Calls.calm_of (Nat.le_refl _) (refHit_any a n c ps h _ B ?_ ?_ HCk.out); (· (have := Below.size (Calm.below (by assumption)); omega)); (· exact (HP.out.below (l3.mono hBw)).below (Below.mono (Calm.below _) (by omega))))) | quiet_step ((go_at_call 20; refine Calls.calm_of (Nat.le_refl _) (refHit_any a n c ps h _ B ?_ ?_ HCk.out); (· (have := Below.size (Calm.below (by assumption)); omega)); (· exact (HP.out.below (l3.mono hBw)).below (Below.mono (Calm.below _) (by omega))))))); refine wpQuiet_nil ?_; intro _ hw'; obtain ⟨xq, hw''⟩ := hw'; subst hw''))
        have hL := LF_step ⟨l0, l1, l2, l3⟩ xq.below
        have HXB3 := Lib.hid (HXB.out.trans (xq.below.mono HXB.out.size))
        clear l0 l1 l2 l3
        obtain ⟨l0, l1, l2, l3⟩ := hL
        go_wp2
        go_roundw
        case rel => exact ⟨i + 1, by omega, by go_num, by rw [HFS.out], ⟨l0, l1, l2, l3⟩, HXB3⟩
        case measure => simp [intOf]; omega
      · obtain rfl : i = m := by omega
        have hlt' : ¬ (i : Int) < (i : Int) := by omega
        go_wp2_with (first | (go_at_call 46; refine (HRE.out _ (by omega) (HP.out.below (l3.mono hBw)) (HH.out.below (l3.mono hBw)) cs HCS.out).mono ?_; rintro e wy ⟨ya, yc, rfl, hly, hby⟩; rw [← HNN.out]; have HLY := Lib.hid hly; have HLX2 := Lib.hid ((HLX.out.below (HXB.out.trans (hby.mono HXB.out.size))).up (Nat.le_trans HXB.out.size hby.size)); have hL := LF_step ⟨l0, l1, l2, l3⟩ hby; clear l0 l1 l2 l3; obtain ⟨l0, l1, l2, l3⟩ := hL; clear hby hly) | (go_at_call 45; refine (SameLists_same _ _ N _ _ (cs.map (byNumber i)) HLL.out (by omega) HBL.out _ wy.heap.size (Nat.le_refl _) HLX2.out HLY.out).mono ?_; rintro e wy ⟨rfl, hby⟩; have hL := LF_step ⟨l0, l1, l2, l3⟩ hby; clear l0 l1 l2 l3; obtain ⟨l0, l1, l2, l3⟩ := hL; clear hby) | (go_at_call 16; refine (lawKnown_any _).mono ?_; rintro e wy ⟨rfl, hby⟩; have hL := LF_step ⟨l0, l1, l2, l3⟩ hby; clear l0 l1 l2 l3; obtain ⟨l0, l1, l2, l3⟩ := hL; clear hby))
        go_ret
        exact ⟨rfl, l3⟩
theorem PlaneEvents_any (a : Option Addr) (n c : Nat) (ps : Nat → PR) (ha : Option Addr) (m d : Nat) (hs : Nat → HV) (w : World) (B : Nat) (hBw : B ≤ w.heap.size) (hP : Planes B w a n ps) (hH : Hits B w ha m hs ∧ m ≤ d ∧ d ≤ maxLen) : Calls Try.prog 13 #[setupV a n c, .slice ha m d] w fun e w' => e = .returned (.bool true) ∧ Below w.heap.size w w' := by
  obtain ⟨hH, hmd, hd⟩ := hH
  cases hsm : smallB n ps
  · exact PE_out a n c ps ha m d hs w B hBw hP hH.1 (.inl hsm)
  · by_cases h1 : m ≤ 30
    · cases hF : feB n ps hs m
      · exact PE_bad a n c ps ha m d hs w B hBw hP hH hsm h1 hF
      · exact PE_ok a n c ps ha m d hs w B hBw hP hH hsm h1 hF
    · by_cases h2 : m ≤ 2000
      · exact PE_out a n c ps ha m d hs w B hBw hP hH.1 (.inr (.inl ⟨by omega, h2⟩))
      · by_cases h3 : m ≤ 2010
        · exact PE_long a n c ps ha m d hs w B hBw hP hH hsm (by omega) h3
        · exact PE_out a n c ps ha m d hs w B hBw hP hH.1 (.inr (.inr (by omega)))
end Go.Proofs.Ytgcepjminlapiaa
