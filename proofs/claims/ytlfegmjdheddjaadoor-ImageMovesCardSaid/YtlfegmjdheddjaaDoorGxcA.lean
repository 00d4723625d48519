/- Texts put together: RefEp1, RefEp2. -/
import Derived.Test.YtlfegmjdheddjaaDoorGxdA
import Derived.Test.YtlfegmjdheddjaaDoorRefAl
import Derived.Test.YtlfegmjdheddjaaDoorGcA
namespace Go.Proofs.YtlfegmjdheddjaaDoor
open Go.RowKit
set_option linter.unusedVariables false
set_option linter.unusedSimpArgs false
set_option maxRecDepth 100000 in
set_option maxHeartbeats 1000000 in
theorem r8Apart_any (aa : Option Addr) (n ac : Nat) (f : Nat → Int) (ga : Option Addr) (gc : Nat) (g : Nat → Int) (w : World) (hF : Ints w.heap.size w aa n f) (hG : Ints w.heap.size w ga n g) (hn : n ≤ 1000000) (hf : DenseF n f) (hg : DenseF n g) :
    Calls Tryd.prog 36 #[.slice aa n ac, .slice ga n gc] w fun e w' => e = .returned (.int .i64 (apartF f g n)) ∧ Below w.heap.size w w' := by
  have HF := Lib.hid hF
  have HG := Lib.hid hG
  have HD := Lib.hid (And.intro hf hg)
  clear hF hG hf hg
  go_enter Tryd.func36, Tryd.ntmps36
  go_wp2
  go_loopw [5, 6] (fun s5 t wr => ∃ i : Nat, i ≤ n ∧ t = .int .i64 (i : Int) ∧ s5 = .int .i64 (apartF f g i) ∧ Hid (Below w.heap.size w wr)) (fun _ t _ => n - (intOf t).toNat)
  case atStart => exact ⟨0, Nat.zero_le _, rfl, rfl, Lib.hid (Below.refl _ _)⟩
  case round =>
    obtain ⟨i, hi, rfl, rfl, HB⟩ := hrel
    by_cases hlt : i < n
    · have hlt' : (i : Int) < (n : Int) := by omega
      obtain ⟨fb, fo, rfl, hfz, x0⟩ := (HF.out.below HB.out).get hlt
      obtain ⟨gb, go_, rfl, hgz, y0⟩ := (HG.out.below HB.out).get hlt
      have hz := HB.out.size
      have hfz2 : fb < wr.heap.size := by omega
      have hgz2 : gb < wr.heap.size := by omega
      have hA := apartF_range HD.out.1 HD.out.2 (k := i) (by omega)
      have hfi := HD.out.1 i hlt
      have hgi := HD.out.2 i hlt
      have HE := Lib.hid (show apartF f g (i + 1) = max (max (apartF f g i) (f i - g i)) (g i - f i) from rfl)
      generalize hA2 : apartF f g (i + 1) = A2 at HE
      have HA2 := Lib.hid hA2
      clear hA2
      generalize f i = fi at *
      generalize g i = gi at *
      generalize apartF f g i = A at *
      go_upto_region 5 with (fail)
      go_region
      have HM := Lib.hid (show (if (if A < fi - gi then fi - gi else A) < gi - fi then gi - fi else if A < fi - gi then fi - gi else A) = A2 from by rw [HE.out]; split <;> split <;> omega)
      rw [HM.out]
      go_wp2
      go_roundw
      case rel => exact ⟨i + 1, by omega, by go_num, by rw [HA2.out], Lib.hid HB.out.drew⟩
      case measure => simp [intOf]; omega
    · obtain rfl : i = n := by omega
      have hlt' : ¬ (i : Int) < (i : Int) := by omega
      go_wp2
      go_ret
      exact ⟨rfl, HB.out⟩
/-- the fields near others, found so far -/
structure NearR (R : Nat → Prop) (W1 : World) (n : Nat) (L : List (List Int)) (oa : Option Addr) (q oc : Nat) (xs : List Value) (wr : World) : Prop where
  below : Below W1.heap.size W1 wr
  len : q = L.length
  own : wr.ownsRow W1.heap.size 38 1 (.slice oa q oc) q xs
  rows : ∀ j, j < L.length → ∃ ra rc, xs[j]? = some (.slice ra n rc) ∧ IntsR R W1 ra n (fOf (L.getD j []))
section
variable {R : Nat → Prop} {W1 : World} {n : Nat} {L : List (List Int)} {oa : Option Addr} {q oc : Nat} {xs : List Value} {wr : World}
theorem NearR.step {wx : World} (h : NearR R W1 n L oa q oc xs wr) (hb : Below wr.heap.size wr wx) : NearR R W1 n L oa q oc xs wx :=
  ⟨h.below.trans (hb.mono h.below.size), h.len, own_below h.own hb, h.rows⟩
theorem NearR.push {a3 : Option Addr} {c3 : Nat} {wx : World} {f : List Int} {ra : Option Addr} {rc : Nat} (h : NearR R W1 n L oa q oc xs wr) (hI : IntsR R W1 ra n (fOf f)) (ho : wx.ownsRow W1.heap.size 38 1 (.slice a3 (q + 1) c3) (q + 1) (xs ++ [.slice ra n rc])) (hg : wr.grownBy wx (Value.slice oa q oc).ownBlock) : NearR R W1 n (L ++ [f]) a3 (q + 1) c3 (xs ++ [.slice ra n rc]) wx := by
  have hxl : xs.length = q := by have := h.own.1; omega
  have hql := h.len
  refine ⟨h.below.grown hg h.below.size (fun b hb => own_block_le h.own hb), by simp [h.len], ho, fun j hj => ?_⟩
  rw [List.length_append, List.length_singleton] at hj
  by_cases e : j < L.length
  · obtain ⟨ra', rc', h1, h2⟩ := h.rows j e
    refine ⟨ra', rc', by rw [List.getElem?_append_left (by omega)]; exact h1, ?_⟩
    rw [List.getD_eq_getElem?_getD, List.getElem?_append_left e, ← List.getD_eq_getElem?_getD]
    exact h2
  · have ej : j = L.length := by omega
    refine ⟨ra, rc, by rw [List.getElem?_append_right (by omega), show j - xs.length = 0 by have := h.len; omega]; rfl, ?_⟩
    rw [List.getD_eq_getElem?_getD, List.getElem?_append_right (by omega), show j - L.length = 0 by omega]
    exact hI
theorem NearR.fr (h : NearR R W1 n L oa q oc xs wr) : FR (fun b => R b ∨ W1.heap.size ≤ b) wr oa n L := by
  by_cases hL : L = []
  · exact .inl (by rw [hL]; rfl)
  · have hl : 0 < L.length := List.length_pos_iff.2 hL
    obtain ⟨g, rfl, h1, h2⟩ := own_at h.own (by have := h.len; omega)
    refine .inr ⟨g, 0, rfl, .inr h1, h2, fun i hi => ?_⟩
    obtain ⟨ra, rc, h3, h4⟩ := h.rows i hi
    refine ⟨ra, rc, ?_, ?_⟩
    · rw [Nat.zero_add, h.own.cellAt i (by have := h.len; omega)]
      exact h3
    · have hz := h.below.size
      rcases h4 with h4 | ⟨b, off, e1, e2, e3, e4⟩
      · exact .inl h4
      · exact .inr ⟨b, off, e1, .inl e2, by omega, fun k hk => (World.cell?_of_block (h.below.block b e3)).trans (e4 k hk)⟩
end
/-- whether one of the first j fields of a list is near the i-th one of another -/
def nearAny (n : Nat) (c : Int) (l k : List (List Int)) (i j : Nat) : Bool := (k.take j).any (fun x => decide (apartL n x (l.getD i []) ≤ c))
theorem nearAny_step {n : Nat} {c : Int} {l k : List (List Int)} {i j : Nat} (hj : j < k.length) : nearAny n c l k i (j + 1) = (nearAny n c l k i j || decide (apartL n (k.getD j []) (l.getD i []) ≤ c)) := any_take hj
theorem nearAny_take {n : Nat} {c : Int} {l k : List (List Int)} {i : Nat} (hi : i < l.length) : nearF n c (l.take (i + 1)) k = if nearAny n c l k i k.length = true then nearF n c (l.take i) k ++ [l.getD i []] else nearF n c (l.take i) k := by
  unfold nearAny
  rw [List.take_length]
  exact nearF_take hi
/-- what near hands back -/
def NearResR (R : Nat → Prop) (n : Nat) (L : List (List Int)) (w : World) (e : Ending) (w' : World) : Prop := (∃ a c, e = .returned (.slice a L.length c) ∧ FR (fun b => R b ∨ w.heap.size ≤ b) w' a n L) ∧ Below w.heap.size w w'
set_option maxRecDepth 100000 in
set_option maxHeartbeats 2000000 in
theorem r8near_any (R : Nat → Prop) (la : Option Addr) (n lc : Nat) (l : List (List Int)) (ka : Option Addr) (kc : Nat) (k : List (List Int)) (ch : Int) (w : World) (hL : FR R w la n l) (hK : Flds w.heap.size w ka n k) (hll : l.length ≤ 1000000) (hkl : k.length ≤ 1000000) (hn : n ≤ 1000000) (hdl : DenseL n l) (hdk : DenseL n k) :
    Calls Tryd.prog 75 #[.slice la l.length lc, .slice ka k.length kc, .int .i64 ch] w (NearResR R n (nearF n ch l k) w) := by
  have HL := Lib.hid hL
  have HK := Lib.hid hK
  have HNT := Lib.hid (fun i (hi : i < l.length) => nearAny_take (n := n) (c := ch) (k := k) hi)
  obtain ⟨AP, hAP⟩ : ∃ AP : Nat → Nat → Int, AP = fun i j => apartL n (k.getD j []) (l.getD i []) := ⟨_, rfl⟩
  have HAT := Lib.hid (fun i j (hj : j < k.length) => show nearAny n ch l k i (j + 1) = (nearAny n ch l k i j || decide (AP i j ≤ ch)) from by rw [hAP]; exact nearAny_step (n := n) (c := ch) (l := l) (i := i) hj)
  have HA0 := Lib.hid (fun i => show nearAny n ch l k i 0 = false from rfl)
  have HEN := Lib.hid (show nearF n ch (l.take l.length) k = nearF n ch l k from by rw [List.take_length])
  have HAP := Lib.hid (fun i j (hi : i < l.length) (hj : j < k.length) (W : World) (ra : Option Addr) (rc : Nat) (sa : Option Addr) (sc : Nat) (hF : Ints W.heap.size W ra n (fOf (l.getD i []))) (hG : Ints W.heap.size W sa n (fOf (k.getD j []))) => (r8Apart_any ra n rc (fOf (l.getD i [])) sa sc (fOf (k.getD j [])) W hF hG hn (hdl.get hi) (hdk.get hj)).mono (R' := fun e w' => e = .returned (.int .i64 (AP i j)) ∧ Below W.heap.size W w') fun e w' h => ⟨by rw [h.1, apart_comm, hAP]; rfl, h.2⟩)
  obtain ⟨i1, hi1, hz10, hz11, hz12⟩ := info_parts info_ints
  have HR := Lib.hid (fun (w' : World) (hb : Below w.heap.size w w') (a : Option Addr) (q c : Nat) (hq : q = (nearF n ch l k).length) (hf : FR (fun b => R b ∨ w.heap.size ≤ b) w' a n (nearF n ch l k)) => show NearResR R n (nearF n ch l k) w (.returned (.slice a q c)) w' from ⟨⟨a, c, by rw [hq], hf⟩, hb⟩)
  generalize NearResR R n (nearF n ch l k) w = RES at *
  have HLG := Lib.hid (fun i (hi : i < l.length) => HL.out.get hi)
  obtain ⟨ll, hll2⟩ : ∃ ll, l.length = ll := ⟨_, rfl⟩
  obtain ⟨kl, hkl2⟩ : ∃ kl, k.length = kl := ⟨_, rfl⟩
  have HKL := Lib.hid hkl2
  rw [hll2] at HNT HEN hll HAP HLG ⊢
  rw [hkl2] at hkl HAT HNT HAP ⊢
  generalize nearAny n ch l k = AN at *
  clear hL hK hdl hdk hll2 hkl2 hAP
  go_enter Tryd.func75, Tryd.ntmps75
  go_wp2
  go_loopw [7, 8] (fun s7 t wr => ∃ (i q : Nat) (oa : Option Addr) (oc : Nat) (xs : List Value), i ≤ ll ∧ q ≤ i ∧ t = .int .i64 (i : Int) ∧ s7 = .slice oa q oc ∧ Hid (NearR R w n (nearF n ch (l.take i) k) oa q oc xs wr)) (fun _ t _ => ll - (intOf t).toNat)
  case atStart => exact ⟨0, 0, none, 0, [], Nat.zero_le _, Nat.zero_le _, rfl, rfl, Lib.hid ⟨Below.refl _ _, rfl, World.ownsRow_nil _ _ _ _, fun j hj => by simp [nearF] at hj⟩⟩
  case round =>
    obtain ⟨i, q, oa, oc, xs, hil, hqi, rfl, rfl, HX⟩ := hrel
    have hzr := HX.out.below.size
    by_cases hlt : i < ll
    · have hlt' : (i : Int) < (ll : Int) := by omega
      obtain ⟨b, off, ra, rc, hla, hRb, hbz, x0, x1⟩ := HLG.out i hlt
      subst hla
      have HX0 := Lib.hid x0
      have HX1 := Lib.hid x1
      have HNI := Lib.hid (HNT.out i hlt)
      clear x0 x1
      go_wp2
      go_loopw [9, 10] (fun s9 t wx => ∃ j : Nat, j ≤ kl ∧ t = .int .i64 (j : Int) ∧ s9 = .bool (AN i j) ∧ Hid (NearR R w n (nearF n ch (l.take i) k) oa q oc xs wx)) (fun _ t _ => kl - (intOf t).toNat)
      case atStart => exact ⟨0, Nat.zero_le _, rfl, by rw [HA0.out], HX⟩
      case round =>
        clear HX hzr
        obtain ⟨j, hj, rfl, rfl, HX⟩ := hrel
        have hzr := HX.out.below.size
        have hbr : b < wr.heap.size := by omega
        by_cases hjl : j < kl
        · have hjl' : (j : Int) < (kl : Int) := by omega
          have HTK := Lib.hid (HAT.out i j hjl)
          cases hA : AN i j
          · rw [hA, Bool.false_or] at HTK
            obtain ⟨kb, ko, sa, sc, hka, hkz, y0, y1⟩ := (HK.out.below HX.out.below).get (i := j) (by rw [HKL.out]; exact hjl)
            subst hka
            have hkr : kb < wr.heap.size := by omega
            have x0 := ((bcell HX.out.below).1 b (off + i) hbz).trans HX0.out
            have HAP1 := Lib.hid (fun (W : World) (hb : Below wr.heap.size wr W) => HAP.out i j hlt hjl W ra rc sa sc (((HX1.out.ints).below (HX.out.below.trans (hb.mono hzr))).up (by have := hb.size; omega)) ((y1.below (hb.mono hzr)).up (by have := hb.size; omega)))
            clear y1 hA
            go_upto_region 9 with (fail)
            (refine wp_region_calm (wr.heap.size) (by kernel_rfl) (by kernel_rfl) ?_; (repeat (first | go_big_quiet_step ((go_at_call 36; exact Calls.calm_of (Nat.le_refl _) (HAP1.out _ (Calm.below _)))) | quiet_step ((go_at_call 36; exact Calls.calm_of (Nat.le_refl _) (HAP1.out _ (Calm.below _)))))); refine wpQuiet_nil ?_; intro _ hw'; obtain ⟨xq, hw''⟩ := hw'; subst hw'')
            go_wp2
            go_roundw
            case rel => exact ⟨j + 1, by omega, by go_num, by rw [HTK.out], Lib.hid (HX.out.step (Calm.below xq))⟩
            case measure => simp [intOf]; omega
          · rw [hA, Bool.true_or] at HTK
            clear hA
            go_upto_region 9 with (fail)
            (refine wp_region_calm (wr.heap.size) (by kernel_rfl) (by kernel_rfl) ?_; (repeat (first | go_big_quiet_step (fail) | quiet_step (fail))); refine wpQuiet_nil ?_; intro _ hw'; obtain ⟨xq, hw''⟩ := hw'; subst hw'')
            go_wp2
            go_roundw
            case rel => exact ⟨j + 1, by omega, by go_num, by rw [HTK.out], Lib.hid (HX.out.step (Calm.below xq))⟩
            case measure => simp [intOf]; omega
        · obtain rfl : j = kl := by omega
          have hjl' : ¬ (j : Int) < (j : Int) := by omega
          cases hA : AN i j
          · rw [hA, if_neg (by simp)] at HNI
            clear hA
            go_wp2
            go_roundw
            case rel => exact ⟨i + 1, q, oa, oc, xs, by omega, by omega, by go_num, rfl, by rw [HNI.out]; exact HX⟩
            case measure => simp [intOf]; omega
          · rw [hA, if_pos rfl] at HNI
            clear hA
            have x0 := ((bcell HX.out.below).1 b (off + i) hbz).trans HX0.out
            go_wp2_with (at_builtin; refine wpList_append_own _ rfl _ _ 33 rfl w.heap.size 38 i1 (.slice none 0 0) 1 24 Tryd.underlying33 hi1 hz10 hz11 hz12 rfl (by decide) _ q xs rfl (HX.out.step (alloc_below wr _)).own ⟨wr.heap.size, 0, none⟩ 1 1 [.slice ra n rc] rfl rfl cells_new one_slice (by unfold maxLen; omega) (by omega) (by simp; omega) ?_; intro v' w3 hown hgrow hnil; obtain ⟨a3, c4, rfl⟩ := own_len hown)
            have HX4 := Lib.hid (NearR.push (HX.out.step (alloc_below wr _)) HX1.out hown hgrow)
            go_roundw
            case rel => exact ⟨i + 1, q + 1, a3, c4, _, by omega, by omega, by go_num, rfl, by rw [HNI.out]; exact HX4⟩
            case measure => simp [intOf]; omega
    · obtain rfl : ll = i := by omega
      have hlt' : ¬ (ll : Int) < (ll : Int) := by omega
      go_wp2
      exact HR.out _ HX.out.below _ _ _ (by rw [← HEN.out]; exact HX.out.len) (by rw [← HEN.out]; exact HX.out.fr)
end Go.Proofs.YtlfegmjdheddjaaDoor
namespace Go.Proofs.YtlfegmjdheddjaaDoor
open Go.RowKit
set_option linter.unusedVariables false
set_option linter.unusedSimpArgs false
/-- All's list lies in new memory -/
theorem r8All_new (a : Option Addr) (n c : Nat) (ba : Option Addr) (m bc : Nat) (ss : Nat → SV) (bs : Nat → BM) (w : World) (B : Nat) (hBw : B ≤ w.heap.size) (hS : Spans B w a n ss) (hM : Beams B w ba m bs) (hSh : Shape n ss m bs) (hmax : (allF n ss m bs).length ≤ 1000000) :
    Calls Tryd.prog 14 #[imageV a n c ba m bc] w fun e w' => (∃ la lc, e = .returned (.slice la (allF n ss m bs).length lc) ∧ FR (fun b => w.heap.size ≤ b) w' la n (allF n ss m bs)) ∧ Below w.heap.size w w' := by
  have HCL := Lib.hid (fun (W : World) (hb : Below w.heap.size w W) => (all_any B w.heap.size n ss m bs a c ba bc hSh n [] none 0 (.slice none 0 0) [] [] W (by simp) (fun i hi => by simp at hi) (hS.below (hb.mono hBw)) (hM.below (hb.mono hBw)) hBw hb.size (.inl rfl) (OutF.nil _ _ _) (by simpa [allF] using hmax)).mono (R' := fun e W' => (∃ la lc, e = .returned (.slice la (allF n ss m bs).length lc) ∧ FR (fun b => w.heap.size ≤ b) W' la n (allF n ss m bs)) ∧ Below W.heap.size W W') fun e W' h => by
    obtain ⟨v', cs', rfl, h1, h2, _⟩ := h
    rw [List.nil_append] at h1
    change OutF w.heap.size n v' (allF n ss m bs) cs' W' at h1
    obtain ⟨la, lc, rfl, hf⟩ := h1.fr
    exact ⟨⟨la, lc, rfl, hf⟩, h2.os, h2.tape, h2.output, h2.size, fun b hb => h2.block b hb (by simp [Value.ownBlock])⟩)
  generalize (allF n ss m bs).length = N at *
  clear hS hM hSh
  go_enter Tryd.func14, Tryd.ntmps14
  go_upto_region 1 with (fail)
  have HLI := Lib.hid (show LI a n c ba m bc w (w.alloc (.cells #[.slice a n c, .slice ba m bc] 25)) from LI_start)
  generalize World.alloc w _ = V at *
  obtain ⟨l0, l1, l2, l3⟩ := HLI.out
  have HC := Lib.hid (HCL.out V l3)
  clear HCL
  go_wp2_with (go_at_call 50; refine HC.out.mono ?_; rintro e w2 ⟨⟨la, lc, rfl, hf⟩, hb2⟩)
  go_ret
  exact ⟨⟨la, lc, rfl, hf⟩, l3.trans (hb2.mono l3.size)⟩
theorem all_im (x : IM) (n : Nat) (hg : GoodI n x) (W : World) (B : Nat) (hBw : B ≤ W.heap.size) (hS : Spans B W x.ca x.cn x.ss) (hM : Beams B W x.ba x.bn x.bs) :
    Calls Tryd.prog 14 #[.agg #[.slice x.ca n x.cc, .slice x.ba x.bn x.bc]] W fun e w' => (∃ la lc, e = .returned (.slice la x.F.length lc) ∧ FR (fun b => W.heap.size ≤ b) w' la n x.F) ∧ Below W.heap.size W w' := by
  obtain ⟨hsh, hn⟩ := ShapedI.shape hg.1
  have hl := allF_le hsh hg.2
  obtain ⟨ca, cn, cc, ba, bn, bc, ss, bs⟩ := x
  dsimp only at hn hsh hl hS hM ⊢
  subst hn
  exact r8All_new ca cn cc ba bn bc ss bs W B hBw hS hM hsh (by omega)
theorem good_len {n : Nat} {x : IM} (hg : GoodI n x) : x.F.length ≤ 1000 ∧ DenseL n x.F ∧ n ≤ 40 := by
  obtain ⟨hsh, hn⟩ := ShapedI.shape hg.1
  have hl := allF_le hsh hg.2
  have hd := allF_dense hsh
  have h40 := hsh.n40
  rw [hn] at hd h40
  refine ⟨by unfold IM.F; omega, ?_, h40⟩
  unfold IM.F
  rw [hn]
  exact hd
set_option maxRecDepth 100000 in
set_option maxHeartbeats 4000000 in
theorem r8History_any (a : Option Addr) (t c : Nat) (im : Nat → IM) (n : Nat) (ch : Int) (w : World) (B : Nat) (hBw : B ≤ w.heap.size) (hI : Imgs B w a t im) (ht1 : 1 ≤ t) (ht6 : t ≤ 6) (hG : ∀ i, i < t → GoodI n (im i)) :
    Calls Tryd.prog 33 #[.slice a t c, .int .i64 ch] w fun e w' => (∃ oa oc, e = .returned (.slice oa t oc) ∧ Lists3 w'.heap.size w' oa t n (histF n ch (fun i => (im i).F) t)) ∧ Below w.heap.size w w' := by
  have HI := Lib.hid hI
  have hn40 := (good_len (hG 0 (by omega))).2.2
  obtain ⟨L, hL⟩ : ∃ L : Nat → List (List Int), L = fun i => (im i).F := ⟨_, rfl⟩
  have hLi : ∀ i, (im i).F = L i := fun i => by rw [hL]
  have HLEN := Lib.hid (fun i (hi : i < t) => show (L i).length ≤ 1000 from by rw [← hLi]; exact (good_len (hG i hi)).1)
  have HDN := Lib.hid (fun i (hi : i < t) => show DenseL n (L i) from by rw [← hLi]; exact (good_len (hG i hi)).2.1)
  have HSAME := Lib.hid (fun i (hi : i < t) => (ShapedI.shape (hG i hi).1).2)
  have HALL := Lib.hid (fun i (hi : i < t) (W : World) (hB : B ≤ W.heap.size) (hS : Spans B W (im i).ca (im i).cn (im i).ss) (hM : Beams B W (im i).ba (im i).bn (im i).bs) => show Calls Tryd.prog 14 #[.agg #[.slice (im i).ca n (im i).cc, .slice (im i).ba (im i).bn (im i).bc]] W (fun e w' => (∃ la lc, e = .returned (.slice la (L i).length lc) ∧ FR (fun b => W.heap.size ≤ b) w' la n (L i)) ∧ Below W.heap.size W w') from by rw [← hLi]; exact all_im (im i) n (hG i hi) W B hB hS hM)
  rw [← hL]
  clear hI hG hL hLi
  have HFW := Lib.hid (fun j => fwd_sub (n := n) (c := ch) (L := L) j)
  have HHI := Lib.hid (fun j (hj : j < t) => hist_sub (n := n) (c := ch) (L := L) hj)
  have HST := Lib.hid (fun j (hj : j + 1 < t) => histF_step (n := n) (c := ch) (L := L) hj)
  have HLA := Lib.hid (histF_last (n := n) (c := ch) (L := L) (t := t))
  obtain ⟨j0, hj0, hz0, hz1, hz2⟩ := info_parts info_rows
  generalize hres : (fun (e : Ending) (w' : World) => (∃ oa oc, e = .returned (.slice oa t oc) ∧ Lists3 w'.heap.size w' oa t n (histF n ch L t)) ∧ Below w.heap.size w w') = RES
  have HR := Lib.hid (fun (w' : World) (oa : Option Addr) (oc : Nat) (h : Lists3 w'.heap.size w' oa t n (histF n ch L t)) (hb : Below w.heap.size w w') => show RES (.returned (.slice oa t oc)) w' from hres ▸ ⟨⟨oa, oc, rfl, h⟩, hb⟩)
  clear hres
  go_enter Tryd.func33, Tryd.ntmps33
  go_wp2
  go_loopw [5, 6] (fun s5 t6 wr => ∃ (i : Nat) (oa : Option Addr) (oc : Nat), i ≤ t ∧ t6 = .int .i64 (i : Int) ∧ s5 = .slice oa i oc ∧ Hid (Below w.heap.size w wr ∧ HO w.heap.size n (.slice oa i oc) i (fwdF n ch L) wr)) (fun _ t6 _ => t - (intOf t6).toNat)
  case atStart => exact ⟨0, none, 0, Nat.zero_le _, rfl, rfl, Lib.hid ⟨Below.refl _ _, HO.nil _ _ _ _⟩⟩
  case round =>
    obtain ⟨i, oa, oc, hi, rfl, rfl, HX⟩ := hrel
    have hzr := HX.out.1.size
    by_cases hlt : i < t
    · have hlt' : (i : Int) < (t : Int) := by omega
      obtain ⟨xb, xo, hxa, hxB, x0, x1, xS, xM⟩ := (HI.out.below (HX.out.1.mono hBw)).get hlt
      subst hxa
      have hxz : xb < wr.heap.size := by omega
      have HAL := Lib.hid (fun (W : World) (hb : Below wr.heap.size wr W) => HALL.out i hlt W (by have := hb.size; omega) (xS.below (hb.mono (by omega))) (xM.below (hb.mono (by omega))))
      rw [HSAME.out i hlt] at x0
      obtain ⟨cs, hcs, hrows⟩ := HX.out.2
      have HROW := Lib.hid hrows
      have hol := HX.out.2.ownlt
      have hb63 : i + 1 ≤ maxLen := by unfold maxLen; omega
      have hb47 : (i + 1) * 24 ≤ 140737488355328 := by omega
      clear xS xM hrows
      by_cases h0 : i = 0
      · have hgt : ¬ (0 : Int) < (i : Int) := by omega
        have HFI := Lib.hid (show fwdF n ch L i = L i from by rw [h0]; rfl)
        obtain ⟨li, hli⟩ : ∃ li, (L i).length = li := ⟨_, rfl⟩
        have HLI := Lib.hid hli
        rw [hli] at HAL
        clear hli h0
        go_upto_region 8 with (first | (go_at_call 14; refine (HAL.out _ (Below.refl _ _)).mono ?_; rintro e w2 ⟨⟨la, lc, rfl, hf⟩, hb2⟩))
        have HBN := Lib.hid hb2
        have HFX := Lib.hid (show FR (fun b => (Value.slice oa i oc).ownBlock ≠ some b) w2 la n (fwdF n ch L i) from by
          rw [HFI.out]
          exact hf.keep (fun b _ _ => rfl) (Nat.le_refl _) (fun b _ h e => by have := hol b e; omega))
        clear hf hb2 x0 x1
        go_wp2_with (at_builtin; refine wpList_append_lies _ rfl _ _ 64 rfl w.heap.size 33 j0 _ 1 24 Tryd.underlying64 hj0 hz0 hz1 hz2 rfl (by decide) (.slice oa i oc) i cs rfl (own_below hcs (HBN.out.trans ((alloc_below w2 _).mono HBN.out.size))) ⟨(w2).heap.size, 0, none⟩ 1 1 [.slice la li lc] rfl rfl (World.news_of_block (heap_alloc_new w2 _)) one_slice (by decide) hb63 hb47 (by have := HBN.out.size; simp; omega) _ rfl ?_; intro g5 p5 W5 hown hgrow hat hlt5)
        have HPS := Lib.hid (HO.push (fa := la) (fc := lc) hcs HROW.out HBN.out HFX.out (by rw [HFI.out, HLI.out]; exact hown) hgrow hat)
        clear hown hgrow hat
        go_roundw
        case rel => exact ⟨i + 1, some ⟨g5, 0, none⟩, p5, by omega, by go_num, rfl, Lib.hid ⟨HX.out.1.grown HPS.out.2 hzr (fun b hb => (hol b hb).1), HPS.out.1⟩⟩
        case measure => simp [intOf]; omega
      · have hgt : (0 : Int) < (i : Int) := by omega
        have j1 : (0 : Int) ≤ (i : Int) - 1 := by omega
        have j2 : ((i : Int) - 1).toNat = i - 1 := by omega
        have j3 : (i : Int) - 1 < (i : Int) := by omega
        have j4 : i - 1 < i := by omega
        have j6 : IntKind.i64.wrap ((i : Int) - 1) = (i : Int) - 1 := IntWalk.i64_in _ (by omega)
        obtain ⟨_, g, hoa, hgw, hgz⟩ := HX.out.2.at_ (by omega)
        subst hoa
        obtain ⟨pa, pc, y0, y1⟩ := HX.out.2.get (k := i - 1) (by omega)
        have HFI := Lib.hid (show nearF n ch (L i) (fwdF n ch L (i - 1)) = fwdF n ch L i from by
          obtain ⟨i', rfl⟩ : ∃ i', i = i' + 1 := ⟨i - 1, by omega⟩
          rfl)
        have HNR := Lib.hid (fun (W : World) (la : Option Addr) (lc : Nat) (hb : Below wr.heap.size wr W) (hl : FR (fun b => wr.heap.size ≤ b) W la n (L i)) => show Calls Tryd.prog 75 #[.slice la (L i).length lc, .slice pa (fwdF n ch L (i - 1)).length pc, .int .i64 ch] W (fun e w' => (∃ a c, e = .returned (.slice a (fwdF n ch L i).length c) ∧ FR (fun b => wr.heap.size ≤ b ∨ W.heap.size ≤ b) w' a n (fwdF n ch L i)) ∧ Below W.heap.size W w') from by
          rw [← HFI.out]
          exact r8near_any (fun b => wr.heap.size ≤ b) la n lc (L i) pa pc (fwdF n ch L (i - 1)) ch W hl ((y1.flds.below hb).up hb.size) (by have := HLEN.out i hlt; omega) (by have := HLEN.out (i - 1) (by omega); have := (HFW.out (i - 1)).2; omega) (by omega) (HDN.out i hlt) (fun f hf => HDN.out (i - 1) (by omega) f ((HFW.out (i - 1)).1 f hf)))
        clear y1 HFI
        obtain ⟨li, hli⟩ : ∃ li, (L i).length = li := ⟨_, rfl⟩
        obtain ⟨lp, hlp⟩ : ∃ lp, (fwdF n ch L (i - 1)).length = lp := ⟨_, rfl⟩
        obtain ⟨lf, hlf⟩ : ∃ lf, (fwdF n ch L i).length = lf := ⟨_, rfl⟩
        have HLF := Lib.hid hlf
        rw [hli] at HAL HNR
        rw [hlp] at HNR y0
        rw [hlf] at HNR
        clear hli hlp hlf
        go_upto_region 6 with (first | (go_at_call 14; refine (HAL.out _ (Below.refl _ _)).mono ?_; rintro e w2 ⟨⟨la, lc, rfl, hf⟩, hb2⟩))
        have HBN := Lib.hid hb2
        have HNR2 := Lib.hid (HNR.out w2 la lc hb2 hf)
        have y0' := ((bcell hb2).1 g (i - 1) hgz).trans y0
        have hgz2 := Nat.lt_of_lt_of_le hgz hb2.size
        clear hf x0 x1 y0 HNR hb2
        go_upto_region 8 with (first | (go_at_call 75; refine HNR2.out.mono ?_; rintro e w3 ⟨⟨na, nc, rfl, hf⟩, hb3⟩))
        have HBx := Lib.hid (HBN.out.trans (hb3.mono HBN.out.size))
        have hzb := HBN.out.size
        clear HBN
        have HBN := HBx
        clear HBx
        have HFX := Lib.hid (show FR (fun b => (Value.slice (some ⟨g, 0, none⟩) i oc).ownBlock ≠ some b) w3 na n (fwdF n ch L i) from
          hf.keep (fun b _ _ => rfl) (Nat.le_refl _) (fun b _ h e => by have := hol b e; omega))
        obtain ⟨oa, hoa⟩ : ∃ oa, oa = (some ⟨g, 0, none⟩ : Option Addr) := ⟨_, rfl⟩
        clear hf hb3 y0' hgz2 HNR2
        rw [← hoa] at hcs HROW hol HFX HX
        rw [← hoa]
        have HOA := Lib.hid hoa
        clear hoa
        go_wp2_with (at_builtin; refine wpList_append_lies _ rfl _ _ 64 rfl w.heap.size 33 j0 _ 1 24 Tryd.underlying64 hj0 hz0 hz1 hz2 rfl (by decide) (.slice oa i oc) i cs rfl (own_below hcs (HBN.out.trans ((alloc_below w3 _).mono HBN.out.size))) ⟨(w3).heap.size, 0, none⟩ 1 1 [.slice na lf nc] rfl rfl (World.news_of_block (heap_alloc_new w3 _)) one_slice (by decide) hb63 hb47 (by have := HBN.out.size; simp; omega) _ rfl ?_; intro g5 p5 W5 hown hgrow hat hlt5)
        have HPS := Lib.hid (HO.push (fa := na) (fc := nc) hcs HROW.out HBN.out HFX.out (by rw [HLF.out]; exact hown) hgrow hat)
        clear hown hgrow hat
        go_roundw
        case rel => exact ⟨i + 1, some ⟨g5, 0, none⟩, p5, by omega, by go_num, rfl, Lib.hid ⟨HX.out.1.grown HPS.out.2 hzr (fun b hb => (hol b hb).1), HPS.out.1⟩⟩
        case measure => simp [intOf]; omega
    · obtain rfl : t = i := by omega
      have hlt' : ¬ (t : Int) < (t : Int) := by omega
      obtain ⟨_, g, hoa, hgw, hgz⟩ := HX.out.2.at_ (by omega)
      subst hoa
      have HA2 := Lib.hid (HX.out.2.congr (M' := fun j => if t - 1 ≤ j then histF n ch L t j else fwdF n ch L j) (fun j hj => by
        try dsimp only
        by_cases e : t - 1 ≤ j
        · obtain rfl : j = t - 1 := by omega
          rw [if_pos e, HLA.out]
        · rw [if_neg e]))
      have HBX := Lib.hid HX.out.1
      have e2 : (t : Int) - 2 = ((t - 1 : Nat) : Int) - 1 := by omega
      have HE2 := Lib.hid e2
      clear e2 HX
      go_wp2
      go_loopw [8] (fun s8 wx => ∃ q : Nat, q ≤ t - 1 ∧ s8 = .int .i64 ((q : Int) - 1) ∧ Hid (Below w.heap.size w wx ∧ HO w.heap.size n (.slice (some ⟨g, 0, none⟩) t oc) t (fun j => if q ≤ j then histF n ch L t j else fwdF n ch L j) wx)) (fun s8 _ => (intOf s8 + 1).toNat)
      case atStart => exact ⟨t - 1, Nat.le_refl _, by first | rw [HE2.out] | (rw [IntWalk.i64_in _ (by omega), HE2.out]), Lib.hid ⟨HBX.out, HA2.out⟩⟩
      case round =>
        clear HA2 HBX
        obtain ⟨q, hq, rfl, HX⟩ := hrel
        obtain ⟨_, g', eg, _, hgz⟩ := HX.out.2.at_ (by omega)
        injection eg with eg
        injection eg with eg _ _
        subst eg
        by_cases hq0 : 1 ≤ q
        · obtain ⟨i, rfl⟩ : ∃ i, q = i + 1 := ⟨q - 1, by omega⟩
          have ei : ((i + 1 : Nat) : Int) - 1 = (i : Int) := by omega
          rw [ei]
          have hi0 : (0 : Int) ≤ (i : Int) := by omega
          obtain ⟨ai, ci, x0, x2⟩ := HX.out.2.get (k := i) (by omega)
          obtain ⟨ap, cp, y0, y2⟩ := HX.out.2.get (k := i + 1) (by omega)
          try dsimp only at x0 x2 y0 y2
          rw [if_neg (by omega)] at x0 x2
          rw [if_pos (Nat.le_refl _)] at y0 y2
          have HNR := Lib.hid (fun (W : World) (hb : Below wr.heap.size wr W) => r8near_any (fun b => b ≠ g) ai n ci (fwdF n ch L i) ap cp (histF n ch L t (i + 1)) ch W (x2.keep (fun b h _ => hb.block b h) hb.size (fun b _ h => h)) ((y2.flds.below hb).up hb.size) (by have := HLEN.out i (by omega); have := (HFW.out i).2; omega) (by have := HLEN.out (i + 1) (by omega); have := (HHI.out (i + 1) (by omega)).2; omega) (by omega) (fun f hf => HDN.out i (by omega) f ((HFW.out i).1 f hf)) (fun f hf => HDN.out (i + 1) (by omega) f ((HHI.out (i + 1) (by omega)).1 f hf)))
          rw [← HST.out i (by omega)] at HNR
          have j1 : IntKind.i64.wrap ((i : Int) + 1) = (i : Int) + 1 := IntWalk.i64_in _ (by omega)
          have j2 : ((i : Int) + 1).toNat = i + 1 := by omega
          have j7 : (0 : Int) ≤ (i : Int) + 1 := by omega
          have j3 : (i : Int) + 1 < (t : Int) := by omega
          have j4 : i + 1 < t := by omega
          have j5 : (i : Int) < (t : Int) := by omega
          have j6 : i < t := by omega
          have x1 := HX.out.2.frozen i
          clear x2 y2 ei
          generalize (fwdF n ch L i).length = li at *
          generalize (histF n ch L t (i + 1)).length = lp at *
          go_upto_region 12 with (fail)
          refine wp_region_any (by kernel_rfl) ?_
          change wpAny _ _ _ _ _ _ _ (World.drew wr)
          have x0 : wr.drew.cell? ⟨g, i, none⟩ = _ := x0
          have y0 : wr.drew.cell? ⟨g, i + 1, none⟩ = _ := y0
          have HD := Lib.hid (show Below wr.heap.size wr wr.drew from (Below.refl _ _).drew)
          have hzd : wr.drew.heap.size = wr.heap.size := rfl
          generalize World.drew wr = Wd at *
          refine any_of_tail 13 13 (fun w' => w'.cell? ⟨g, i, none⟩ = some (.slice ai li ci) ∧ w'.cell? ⟨g, i + 1, none⟩ = some (.slice ap lp cp)) (by kernel_rfl) ⟨x0, y0⟩ (fun hS => ?_)
          refine headH_take (i := 0) (v := ?_) rfl (by kernel_rfl) (fun _ _ _ h => h) (Or.inl ⟨by rfl, ?_⟩) (by assumption) ?_; rotate_left; (· intro w' hSw; (try dsimp only at hSw); (try obtain ⟨hSw1, hSw2⟩ := hSw); go_simp; (try with_reducible rfl)); (try simp only [List.getElem_toArray, List.getElem_cons_zero, List.getElem_cons_succ]); (try dsimp only [Act.put]); (try simp only [List.setIfInBounds_toArray, List.set_cons_zero, List.set_cons_succ])
          refine headH_take (i := 1) (v := ?_) rfl (by kernel_rfl) (fun _ _ _ h => h) (Or.inl ⟨by rfl, ?_⟩) (by assumption) ?_; rotate_left; (· intro w' hSw; (try dsimp only at hSw); (try obtain ⟨hSw1, hSw2⟩ := hSw); go_simp; (try with_reducible rfl)); (try simp only [List.getElem_toArray, List.getElem_cons_zero, List.getElem_cons_succ]); (try dsimp only [Act.put]); (try simp only [List.setIfInBounds_toArray, List.set_cons_zero, List.set_cons_succ])
          refine headH_take (i := 2) (v := ?_) rfl (by kernel_rfl) (fun _ _ _ h => h) (Or.inl ⟨by rfl, ?_⟩) (by assumption) ?_; rotate_left; (· intro w' hSw; (try dsimp only at hSw); (try obtain ⟨hSw1, hSw2⟩ := hSw); go_simp; (try with_reducible rfl)); (try simp only [List.getElem_toArray, List.getElem_cons_zero, List.getElem_cons_succ]); (try dsimp only [Act.put]); (try simp only [List.setIfInBounds_toArray, List.set_cons_zero, List.set_cons_succ])
          refine headH_take (i := 3) (v := ?_) rfl (by kernel_rfl) (fun _ _ _ h => h) (Or.inl ⟨by rfl, ?_⟩) (by assumption) ?_; rotate_left; (· intro w' hSw; (try dsimp only at hSw); (try obtain ⟨hSw1, hSw2⟩ := hSw); go_simp; (try with_reducible rfl)); (try simp only [List.getElem_toArray, List.getElem_cons_zero, List.getElem_cons_succ]); (try dsimp only [Act.put]); (try simp only [List.setIfInBounds_toArray, List.set_cons_zero, List.set_cons_succ])
          refine headH_take (i := 4) (v := ?_) rfl (by kernel_rfl) (fun _ _ _ h => h) (Or.inl ⟨by rfl, ?_⟩) (by assumption) ?_; rotate_left; (· intro w' hSw; (try dsimp only at hSw); (try obtain ⟨hSw1, hSw2⟩ := hSw); go_simp; (try with_reducible rfl)); (try simp only [List.getElem_toArray, List.getElem_cons_zero, List.getElem_cons_succ]); (try dsimp only [Act.put]); (try simp only [List.setIfInBounds_toArray, List.set_cons_zero, List.set_cons_succ])
          refine headH_take (i := 5) (v := ?_) rfl (by kernel_rfl) (fun _ _ _ h => h) (Or.inl ⟨by rfl, ?_⟩) (by assumption) ?_; rotate_left; (· intro w' hSw; (try dsimp only at hSw); (try obtain ⟨hSw1, hSw2⟩ := hSw); go_simp; (try with_reducible rfl)); (try simp only [List.getElem_toArray, List.getElem_cons_zero, List.getElem_cons_succ]); (try dsimp only [Act.put]); (try simp only [List.setIfInBounds_toArray, List.set_cons_zero, List.set_cons_succ])
          refine headH_take (i := 6) (v := ?_) rfl (by kernel_rfl) (fun _ _ _ h => h) (Or.inl ⟨by rfl, ?_⟩) (by assumption) ?_; rotate_left; (· intro w' hSw; (try dsimp only at hSw); (try obtain ⟨hSw1, hSw2⟩ := hSw); go_simp; (try with_reducible rfl)); (try simp only [List.getElem_toArray, List.getElem_cons_zero, List.getElem_cons_succ]); (try dsimp only [Act.put]); (try simp only [List.setIfInBounds_toArray, List.set_cons_zero, List.set_cons_succ])
          refine headH_take (i := 7) (v := ?_) rfl (by kernel_rfl) (fun _ _ _ h => h) (Or.inl ⟨by rfl, ?_⟩) (by assumption) ?_; rotate_left; (· intro w' hSw; (try dsimp only at hSw); (try obtain ⟨hSw1, hSw2⟩ := hSw); go_simp; (try with_reducible rfl)); (try simp only [List.getElem_toArray, List.getElem_cons_zero, List.getElem_cons_succ]); (try dsimp only [Act.put]); (try simp only [List.setIfInBounds_toArray, List.set_cons_zero, List.set_cons_succ])
          refine headH_take (i := 8) (v := ?_) rfl (by kernel_rfl) (fun _ _ _ h => h) (Or.inl ⟨by rfl, ?_⟩) (by assumption) ?_; rotate_left; (· intro w' hSw; (try dsimp only at hSw); (try obtain ⟨hSw1, hSw2⟩ := hSw); go_simp; (try with_reducible rfl)); (try simp only [List.getElem_toArray, List.getElem_cons_zero, List.getElem_cons_succ]); (try dsimp only [Act.put]); (try simp only [List.setIfInBounds_toArray, List.set_cons_zero, List.set_cons_succ])
          refine headH_take (i := 9) (v := ?_) rfl (by kernel_rfl) (fun _ _ _ h => h) (Or.inl ⟨by rfl, ?_⟩) (by assumption) ?_; rotate_left; (· intro w' hSw; (try dsimp only at hSw); (try obtain ⟨hSw1, hSw2⟩ := hSw); go_simp; (try with_reducible rfl)); (try simp only [List.getElem_toArray, List.getElem_cons_zero, List.getElem_cons_succ]); (try dsimp only [Act.put]); (try simp only [List.setIfInBounds_toArray, List.set_cons_zero, List.set_cons_succ])
          refine headH_take (i := 10) (v := ?_) rfl (by kernel_rfl) (fun _ _ _ h => h) (Or.inl ⟨by rfl, ?_⟩) (by assumption) ?_; rotate_left; (· intro w' hSw; (try dsimp only at hSw); (try obtain ⟨hSw1, hSw2⟩ := hSw); go_simp; (try with_reducible rfl)); (try simp only [List.getElem_toArray, List.getElem_cons_zero, List.getElem_cons_succ]); (try dsimp only [Act.put]); (try simp only [List.setIfInBounds_toArray, List.set_cons_zero, List.set_cons_succ])
          refine headH_take (i := 11) (v := ?_) rfl (by kernel_rfl) (fun _ _ _ h => h) (Or.inl ⟨by rfl, ?_⟩) (by assumption) ?_; rotate_left; (· intro w' hSw; (try dsimp only at hSw); (try obtain ⟨hSw1, hSw2⟩ := hSw); go_simp; (try with_reducible rfl)); (try simp only [List.getElem_toArray, List.getElem_cons_zero, List.getElem_cons_succ]); (try dsimp only [Act.put]); (try simp only [List.setIfInBounds_toArray, List.set_cons_zero, List.set_cons_succ])
          refine headH_all (rs := [12]) (by kernel_rfl) (by simp) (by kernel_rfl) ?_; intro i0 hi0; simp only [List.mem_cons, List.not_mem_nil, or_false] at hi0
          subst hi0
          refine headH_op rfl (fun K hK => ?_)
          go_simp
          refine (HNR.out Wd HD.out).mono ?_
          rintro e W3 ⟨⟨na, nc, rfl, hfl3⟩, hb3⟩
          try dsimp only
          have hz3 := hb3.size
          have HBX := Lib.hid (HX.out.1.trans ((HD.out.trans (hb3.mono (by omega))).mono HX.out.1.size))
          have x3 := ((bcell hb3).1 g i (by omega)).trans x0
          have y3 := ((bcell hb3).1 g (i + 1) (by omega)).trans y0
          have HP := Lib.hid ((((HX.out.2.step (HD.out.trans (hb3.mono (by omega)))).put (i := i) (fc := nc) (by omega) (hfl3.keep (fun b _ _ => rfl) (Nat.le_refl _) (fun b _ h => by rcases h with h | h; exact h; omega)))).congr (M' := fun j => if i ≤ j then histF n ch L t j else fwdF n ch L j) (fun j _ => by
            try dsimp only
            by_cases e : j = i
            · rw [if_pos e, if_pos (by omega), e]
            · rw [if_neg e]
              by_cases e2 : i + 1 ≤ j
              · rw [if_pos e2, if_pos (by omega)]
              · rw [if_neg e2, if_neg (by omega)]))
          have f3 : W3.frozen? ⟨g, i, none⟩ = false := by
            rw [World.frozen?_of_block ((hb3.block g (by omega)).trans (HD.out.block g hgz))]
            exact x1
          refine hK.out _ _ ⟨x3, y3⟩ (fun hS2 => ?_)
          clear hK K hS hS2 hfl3
          (try simp only [List.getElem_toArray, List.getElem_cons_zero, List.getElem_cons_succ]); (try dsimp only [Act.put]); (try simp only [List.setIfInBounds_toArray, List.set_cons_zero, List.set_cons_succ])
          change tailL _ _ _ _ _ _ _ _
          refine ⟨by kernel_rfl, ?_⟩
          simp only [List.drop_succ_cons, List.drop_zero]
          have HFN := Lib.hid (show Below w.heap.size w (W3.setCell ⟨g, i, none⟩ (.slice na (histF n ch L t i).length nc)) ∧ HO w.heap.size n (.slice (some ⟨g, 0, none⟩) t oc) t (fun j => if i ≤ j then histF n ch L t j else fwdF n ch L j) (W3.setCell ⟨g, i, none⟩ (.slice na (histF n ch L t i).length nc)) from ⟨HBX.out.setCell (p := ⟨g, i, none⟩) hgw _, HP.out⟩)
          clear j1 j2 j3 j7 hb3 HNR x0 y0 y3 HX HD x1 HP HBX hzd
          go_wp2
          exact ⟨⟨i, by omega, by go_num, HFN⟩, by simp [intOf] <;> omega⟩
        · obtain rfl : q = 0 := by omega
          have HFN := Lib.hid ((HX.out.2.congr (M' := histF n ch L t) (fun j _ => by (try dsimp only); rw [if_pos (Nat.zero_le _)])).lists)
          have hbw := HX.out.1
          clear HX
          go_wp2
          exact HR.out _ _ _ HFN.out hbw
set_option maxRecDepth 100000 in
set_option maxHeartbeats 1000000 in
/-- Calm: the least change -/
theorem r8Calm_any (a : Option Addr) (t c : Nat) (im : Nat → IM) (n : Nat) (N : Nat) (w : World) (B : Nat) (hBw : B ≤ w.heap.size) (hI : Imgs B w a t im) (ht1 : 1 ≤ t) (ht6 : t ≤ 6) (hG : ∀ i, i < t → GoodI n (im i)) (hN : N ≤ 1000) (h1 : histF n (N : Int) (fun i => (im i).F) t 0 ≠ []) (h2 : ∀ j : Nat, j < N → histF n (j : Int) (fun i => (im i).F) t 0 = []) :
    Calls Tryd.prog 32 #[.slice a t c] w fun e w' => e = .returned (.int .i64 (N : Int)) ∧ Below w.heap.size w w' := by
  have HH := Lib.hid (fun (k : Nat) (W : World) (hb : Below w.heap.size w W) => r8History_any a t c im n (k : Int) W B (Nat.le_trans hBw hb.size) (hI.below (hb.mono hBw)) ht1 ht6 hG)
  have HL1 := Lib.hid (show 0 < (histF n (N : Int) (fun i => (im i).F) t 0).length from List.length_pos_iff.2 h1)
  have HL2 := Lib.hid (fun (j : Nat) (hj : j < N) => show (histF n (j : Int) (fun i => (im i).F) t 0).length = 0 from by rw [h2 j hj]; rfl)
  generalize (fun i => (im i).F) = L at *
  have h0t : (0 : Int) < (t : Int) := by omega
  clear hI hG h1 h2
  go_enter Tryd.func32, Tryd.ntmps32
  go_wp2
  go_loopw [3] (fun s3 wr => ∃ k : Nat, k ≤ N ∧ s3 = .int .i64 (k : Int) ∧ Hid (Below w.heap.size w wr)) (fun s3 _ => N - (intOf s3).toNat)
  case atStart => exact ⟨0, Nat.zero_le _, rfl, Lib.hid (Below.refl _ _)⟩
  case round =>
    obtain ⟨k, hk, rfl, HB⟩ := hrel
    have HC := Lib.hid (HH.out k wr HB.out)
    by_cases hlt : k < N
    · have hl0 := Lib.hid (HL2.out k hlt)
      go_wp2_with (go_at_call 33; refine HC.out.mono ?_; rintro e w2 ⟨⟨oa, oc, rfl, hl⟩, hb2⟩; obtain ⟨b, off, fa, fc, rfl, hbz, x0, x1⟩ := hl.get (k := 0) (by omega); rw [hl0.out, Nat.add_zero] at x0; clear hl x1)
      go_roundw
      case rel => exact ⟨k + 1, by omega, by go_num, Lib.hid (HB.out.trans (hb2.mono HB.out.size))⟩
      case measure => simp [intOf]; omega
    · obtain rfl : k = N := by omega
      obtain ⟨q, hq⟩ : ∃ q, (histF n (k : Int) L t 0).length = q := ⟨_, rfl⟩
      have hqe : ((q : Int) == 0) = false := by rw [beq_eq_false_iff_ne]; have := HL1.out; omega
      have HQ := Lib.hid hq
      clear hq
      go_wp2_with (go_at_call 33; refine HC.out.mono ?_; rintro e w2 ⟨⟨oa, oc, rfl, hl⟩, hb2⟩; obtain ⟨b, off, fa, fc, rfl, hbz, x0, x1⟩ := hl.get (k := 0) (by omega); rw [HQ.out, Nat.add_zero] at x0; clear hl x1)
      go_ret
      exact ⟨rfl, HB.out.trans (hb2.mono HB.out.size)⟩
end Go.Proofs.YtlfegmjdheddjaaDoor
