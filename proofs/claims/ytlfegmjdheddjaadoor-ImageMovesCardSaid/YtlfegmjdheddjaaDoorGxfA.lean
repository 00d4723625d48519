/- Texts put together: RefFd, LawMv0. -/
import Derived.Test.YtlfegmjdheddjaaDoorRef8
import Derived.Test.YtlfegmjdheddjaaDoorGaA
import Derived.Test.YtlfegmjdheddjaaDoorGxhA
import Derived.Test.YtlfegmjdheddjaaDoorGyA
import Derived.Test.YtlfegmjdheddjaaDoorGxcA
import Derived.Test.YtlfegmjdheddjaaDoorGxbA
import Derived.Test.YtlfegmjdheddjaaDoorRefAg
import Derived.Test.YtlfegmjdheddjaaDoorGxgA
namespace Go.Proofs.YtlfegmjdheddjaaDoor
open Go.RowKit
set_option linter.unusedVariables false
set_option linter.unusedSimpArgs false
theorem fieldB_no {n : Nat} {ss : Nat → SV} {k : Nat} {f : Nat → Int} {i : Nat} (hi : i < min k n) (h : inB (f i) (ss i).lo (ss i).hi = false) : fieldB n ss k f = false := by
  unfold fieldB
  rw [allUpto_false hi h, Bool.false_and]
theorem fieldB_end {n : Nat} {ss : Nat → SV} {k : Nat} {f : Nat → Int} (h : ∀ i, i < min k n → inB (f i) (ss i).lo (ss i).hi = true) : fieldB n ss k f = (k == n) := by
  unfold fieldB
  rw [allUpto_true h, Bool.true_and]
set_option maxRecDepth 100000 in
set_option maxHeartbeats 1000000 in
theorem r8Field_any (a : Option Addr) (n c : Nat) (ba : Option Addr) (m bc : Nat) (ss : Nat → SV) (fa : Option Addr) (k fc : Nat) (f : Nat → Int) (w : World) (B : Nat) (hBw : B ≤ w.heap.size) (hS : Spans B w a n ss) (hF : Ints w.heap.size w fa k f) (hk : k ≤ maxLen) :
    Calls Tryd.prog 22 #[imageV a n c ba m bc, .slice fa k fc] w fun e w' => e = .returned (.bool (fieldB n ss k f)) ∧ Below w.heap.size w w' := by
  have hn := hS.1
  unfold maxLen at hn hk
  have HS := Lib.hid hS
  have HF := Lib.hid hF
  have HNO := Lib.hid (fun (i : Nat) (hi : i < min k n) (h : inB (f i) (ss i).lo (ss i).hi = false) => fieldB_no hi h)
  have HYES := Lib.hid (fun (h : ∀ i, i < min k n → inB (f i) (ss i).lo (ss i).hi = true) => fieldB_end h)
  generalize fieldB n ss k f = RES at *
  clear hS hF
  go_enter Tryd.func22, Tryd.ntmps22
  go_upto_region 1 with (fail)
  have HL := Lib.hid (show LI a n c ba m bc w (w.alloc (.cells #[.slice a n c, .slice ba m bc] 25)) from LI_start)
  generalize World.alloc w _ = V at *
  go_wp2
  go_loopw [5] (fun t wr => ∃ i : Nat, i ≤ min k n ∧ t = .int .i64 (i : Int) ∧ Hid ((∀ j, j < i → inB (f j) (ss j).lo (ss j).hi = true) ∧ LI a n c ba m bc w wr)) (fun t _ => min k n - (intOf t).toNat)
  case atStart => exact ⟨0, Nat.zero_le _, rfl, Lib.hid ⟨fun j h => by omega, HL.out⟩⟩
  case round =>
    clear HL
    obtain ⟨i, hi, rfl, HR⟩ := hrel
    obtain ⟨l0, l1, l2, l3⟩ := HR.out.2
    by_cases hlt : i < k
    · have hlt' : (i : Int) < (k : Int) := by omega
      by_cases hlt2 : i < n
      · have hlt2' : (i : Int) < (n : Int) := by omega
        obtain ⟨b, off, rfl, hbB, c0, c1⟩ := (HS.out.below (l3.mono hBw)).get hlt2
        obtain ⟨fb, fo, rfl, hfB, d0⟩ := (HF.out.below l3).get hlt
        have hbz : b < wr.heap.size := by omega
        have hfz : fb < wr.heap.size := by omega
        have HN := Lib.hid (HNO.out i (by omega))
        have HA := Lib.hid (fun h j (hj : j < i + 1) => show inB (f j) (ss j).lo (ss j).hi = true from by (by_cases e : j = i; (subst e; exact h); exact HR.out.1 j (by omega)))
        cases h1 : inB (f i) (ss i).lo (ss i).hi
        · have HE := Lib.hid (HN.out h1)
          go_upto_region 4 with (fail)
          (refine wp_region_calm (wr.heap.size) (by kernel_rfl) (by kernel_rfl) ?_; (repeat (first | go_big_quiet_step ((go_at_call 59; exact Calls.calm_same (r8in_any _ _ _ _))) | quiet_step ((go_at_call 59; exact Calls.calm_same (r8in_any _ _ _ _))))); refine wpQuiet_nil ?_; intro _ hw'; obtain ⟨xq, hw''⟩ := hw'; subst hw'')
          go_wp2
          go_ret
          exact ⟨ret_bool HE.out.symm, l3.trans ((Calm.below _).mono l3.size)⟩
        · have HE := Lib.hid (HA.out h1)
          go_upto_region 4 with (fail)
          (refine wp_region_calm (wr.heap.size) (by kernel_rfl) (by kernel_rfl) ?_; (repeat (first | go_big_quiet_step ((go_at_call 59; exact Calls.calm_same (r8in_any _ _ _ _))) | quiet_step ((go_at_call 59; exact Calls.calm_same (r8in_any _ _ _ _))))); refine wpQuiet_nil ?_; intro _ hw'; obtain ⟨xq, hw''⟩ := hw'; subst hw'')
          go_wp2
          go_roundw
          case rel => exact ⟨i + 1, by omega, by go_num, Lib.hid ⟨HE.out, LI_step HR.out.2 (Calm.below _)⟩⟩
          case measure => simp [intOf]; omega
      · obtain rfl : i = n := by omega
        have hlt2' : ¬ (i : Int) < (i : Int) := by omega
        have hkn : ((k : Int) == (i : Int)) = false := by rw [beq_eq_false_iff_ne]; omega
        have HE := Lib.hid (HYES.out (fun j hj => HR.out.1 j (by omega)))
        rw [show (k == i) = false from by rw [beq_eq_false_iff_ne]; omega] at HE
        go_wp2
        go_ret
        exact ⟨ret_bool HE.out.symm, l3⟩
    · have hlt' : ¬ (i : Int) < (k : Int) := by omega
      have HE := Lib.hid (HYES.out (fun j hj => HR.out.1 j (by omega)))
      by_cases e : k = n
      · have hkn : ((k : Int) == (n : Int)) = true := by rw [beq_iff_eq]; omega
        rw [show (k == n) = true from by rw [beq_iff_eq]; exact e] at HE
        clear e
        go_wp2
        go_ret
        exact ⟨ret_bool HE.out.symm, l3⟩
      · have hkn : ((k : Int) == (n : Int)) = false := by rw [beq_eq_false_iff_ne]; omega
        rw [show (k == n) = false from by rw [beq_eq_false_iff_ne]; exact e] at HE
        clear e
        go_wp2
        go_ret
        exact ⟨ret_bool HE.out.symm, l3⟩
end Go.Proofs.YtlfegmjdheddjaaDoor
namespace Go.Proofs.YtlfegmjdheddjaaDoor
open Go.RowKit
set_option linter.unusedVariables false
set_option linter.unusedSimpArgs false
noncomputable def mvFrom (k : Nat) : Code := dropSeq k (Tryd.f7.body.getD .skip)
def mvPost (w : World) (e : Ending) (w' : World) : Prop := e = .returned (.bool true) ∧ Below w.heap.size w w'
/-- whether the first fields are a history -/
def ownB (im : Nat → IM) (fm : Nat → FM) (ch : Int) : Nat → Bool
  | 0 => true
  | i + 1 => ownB im fm ch i && (fieldB (im i).cn (im i).ss (fm i).n (fm i).f && agreesB (im i).bn (im i).bs (fm i).f && ((i == 0) || decide (apartF (fm (i - 1)).f (fm i).f (fm (i - 1)).n ≤ ch)))
theorem ownB_up {im : Nat → IM} {fm : Nat → FM} {ch : Int} : ∀ {i : Nat}, ownB im fm ch i = true → ∀ j, j < i → fieldB (im j).cn (im j).ss (fm j).n (fm j).f = true ∧ agreesB (im j).bn (im j).bs (fm j).f = true ∧ (0 < j → apartF (fm (j - 1)).f (fm j).f (fm (j - 1)).n ≤ ch)
  | i + 1, h, j, hj => by
    rw [ownB, Bool.and_eq_true, Bool.and_eq_true, Bool.and_eq_true, Bool.or_eq_true, beq_iff_eq, decide_eq_true_eq] at h
    by_cases e : j = i
    · subst e
      exact ⟨h.2.1.1, h.2.1.2, fun h0 => by rcases h.2.2 with h1 | h1; omega; exact h1⟩
    · exact ownB_up h.1 j (by omega)
/-- what all images are, where the statement goes on -/
structure MvG (t : Nat) (im : Nat → IM) : Prop where
  t1 : 1 ≤ t
  t4 : t ≤ 4
  check : ∀ i, i < t → (im i).check = 0
  few : ∀ i, i < t → (im i).fields ≤ 500
  same : ∀ i, i < t → (im i).cn = (im 0).cn
theorem check_shape {x : IM} (h : x.check = 0) : x.shape = true := shapeB_iff.2 (checkN_shape h)
section
variable {t : Nat} {im : Nat → IM} {fm : Nat → FM} {ch : Int}
theorem MvG.good (h : MvG t im) : ∀ i, i < t → GoodI (im 0).cn (im i) := fun i hi => by
  have h1 := check_shape (h.check i hi)
  refine ⟨?_, ?_⟩
  · unfold ShapedI
    rw [Bool.and_eq_true, beq_iff_eq]
    exact ⟨h1, h.same i hi⟩
  · rw [long_fields]
    exact decide_eq_false (by have := h.few i hi; omega)
theorem MvG.movE (h : MvG t im) : movE t im true = if allUpto t (fun i => !(im i).F.isEmpty) = false then 5 else 0 := by
  unfold Go.Proofs.YtlfegmjdheddjaaDoor.movE
  rw [if_neg (by have := h.t4; omega), if_neg (by rintro (e | e); have := h.t1; omega; cases e), if_neg (by rw [allUpto_true (fun i hi => (h.good i hi).1)]; decide), if_neg (by rw [allUpto_true (fun i hi => by rw [(h.good i hi).2]; rfl)]; decide)]
/-- the history that is proposed -/
theorem MvG.hist (h : MvG t im) (ho : ownB im fm ch t = true) : HistF (im 0).cn ch (fun i => (im i).F) t (fun i => (List.range (im 0).cn).map (fm i).f) := by
  refine ⟨fun i hi => ?_, fun i hi => ?_⟩
  · obtain ⟨h1, h2, _⟩ := ownB_up ho i hi
    have hs := checkN_shape (h.check i hi)
    have h3 := (fieldB_iff.1 h1).2
    have h4 := own_all hs h3 h2
    rw [h.same i hi] at h4
    show _ ∈ (im i).F
    unfold IM.F
    rw [h.same i hi]
    exact h4
  · obtain ⟨_, _, h3⟩ := ownB_up ho (i + 1) hi
    have h4 := h3 (by omega)
    rw [show i + 1 - 1 = i by omega] at h4
    have h5 := (fieldB_iff.1 (ownB_up ho i (by omega)).1).1
    rw [h5, h.same i (by omega)] at h4
    unfold apartL
    rw [apartF_congr (im 0).cn (fun j hj => fOf_list hj) (fun j hj => fOf_list hj)]
    exact h4
theorem MvG.some (h : MvG t im) (ho : ownB im fm ch t = true) : ∀ i, i < t → (im i).F ≠ [] := fun i hi e => by
  have := (h.hist ho).mem i hi
  try dsimp only at this
  rw [e] at this
  cases this
theorem MvG.own_in (h : MvG t im) (ho : ownB im fm ch t = true) {i k : Nat} (hi : i < t) (hk : k < (im 0).cn) : (bnd (fun f => fOf f k) (histF (im 0).cn ch (fun i => (im i).F) t i)).lo ≤ (fm i).f k ∧ (fm i).f k ≤ (bnd (fun f => fOf f k) (histF (im 0).cn ch (fun i => (im i).F) t i)).hi := by
  have h1 := own_bnd (h.hist ho) (k := k) hi
  try dsimp only at h1
  rw [fOf_list hk] at h1
  exact h1
end
/-- the images and the fields that come in -/
structure MvIn (a : Option Addr) (t : Nat) (im : Nat → IM) (xa : Option Addr) (fm : Nat → FM) (w : World) : Prop where
  is : IsIn a t im w
  fm : FmAt w.heap.size w xa t fm
section
variable {a : Option Addr} {t : Nat} {im : Nat → IM} {xa : Option Addr} {fm : Nat → FM} {w W : World} {i : Nat}
theorem MvIn.F (h : MvIn a t im xa fm w) (hi : i < t) (hb : Below w.heap.size w W) : (fm i).n ≤ maxLen ∧ Ints W.heap.size W (fm i).a (fm i).n (fm i).f := by
  obtain ⟨_, _, _, _, _, h1, h2⟩ := (h.fm.below hb).get hi
  exact ⟨h1, h2.up hb.size⟩
theorem MvIn.fieldC (h : MvIn a t im xa fm w) (hi : i < t) (hb : Below w.heap.size w W) : Calls Tryd.prog 22 #[.agg #[.slice (im i).ca (im i).cn (im i).cc, .slice (im i).ba (im i).bn (im i).bc], .slice (fm i).a (fm i).n (fm i).c] W fun e w' => e = .returned (.bool (fieldB (im i).cn (im i).ss (fm i).n (fm i).f)) ∧ Below W.heap.size W w' :=
  r8Field_any (im i).ca (im i).cn (im i).cc (im i).ba (im i).bn (im i).bc (im i).ss (fm i).a (fm i).n (fm i).c (fm i).f W w.heap.size hb.size (h.is.S hi hb) (h.F hi hb).2 (h.F hi hb).1
theorem MvIn.agreesC (h : MvIn a t im xa fm w) (hi : i < t) (hc : (im i).check = 0) (hf : fieldB (im i).cn (im i).ss (fm i).n (fm i).f = true) (hb : Below w.heap.size w W) : Calls Tryd.prog 23 #[.agg #[.slice (im i).ca (im i).cn (im i).cc, .slice (im i).ba (im i).bn (im i).bc], .slice (fm i).a (fm i).n (fm i).c] W fun e w' => e = .returned (.bool (agreesB (im i).bn (im i).bs (fm i).f)) ∧ Below W.heap.size W w' := by
  have hs := checkN_shape hc
  obtain ⟨h1, h2⟩ := fieldB_iff.1 hf
  have h3 := (h.F hi hb).2
  rw [h1] at h3 ⊢
  exact r8Agrees_any (im i).ca (im i).cn (im i).cc (im i).ba (im i).bn (im i).bc (im i).ss (im i).bs (fm i).a (fm i).c (fm i).f W w.heap.size hb.size (h.is.M hi hb) hs h3 (inBox_den hs h2)
theorem MvIn.apartC (h : MvIn a t im xa fm w) (hi : i < t) {j : Nat} (hj : j < t) (hc : (im i).check = 0) (hcj : (im j).check = 0) (hn : (im i).cn = (im j).cn) (hf : fieldB (im i).cn (im i).ss (fm i).n (fm i).f = true) (hfj : fieldB (im j).cn (im j).ss (fm j).n (fm j).f = true) (hb : Below w.heap.size w W) : Calls Tryd.prog 36 #[.slice (fm j).a (fm j).n (fm j).c, .slice (fm i).a (fm i).n (fm i).c] W fun e w' => e = .returned (.int .i64 (apartF (fm j).f (fm i).f (fm j).n)) ∧ Below W.heap.size W w' := by
  have hs := checkN_shape hc
  have hsj := checkN_shape hcj
  obtain ⟨h1, h2⟩ := fieldB_iff.1 hf
  obtain ⟨k1, k2⟩ := fieldB_iff.1 hfj
  have h3 := (h.F hi hb).2
  have k3 := (h.F hj hb).2
  have h4 := hsj.n40
  rw [h1, hn] at h3 ⊢
  rw [k1] at k3 ⊢
  have d1 := inBox_den hs h2
  rw [hn] at d1
  exact r8Apart_any (fm j).a (im j).cn (fm j).c (fm j).f (fm i).a (fm i).c (fm i).f W k3 h3 (by omega) (inBox_den hsj k2) d1
end
end Go.Proofs.YtlfegmjdheddjaaDoor
