/- The walk of the statement ImageFree. -/
import Derived.Test.YtlfegmjdheddjaaDoorGrA
import Derived.Test.YtlfegmjdheddjaaDoorRefAl
import Derived.Test.YtlfegmjdheddjaaDoorGBA
import Derived.Test.YtlfegmjdheddjaaDoorImFreeW
import Derived.Test.YtlfegmjdheddjaaDoorGqA
namespace Go.Proofs.YtlfegmjdheddjaaDoor
open Go.RowKit
set_option linter.unusedVariables false
set_option linter.unusedSimpArgs false
section
variable {a : Option Addr} {n c : Nat} {ba : Option Addr} {m bc : Nat} {ss : Nat → SV} {bs : Nat → BM} {w W : World}
abbrev FrI (a : Option Addr) (n c : Nat) (ba : Option Addr) (m bc : Nat) (ss : Nat → SV) (bs : Nat → BM) (w : World) : Prop := ImIn w.heap.size a n c ba m bc ss bs w
theorem fr_small (h : FrI a n c ba m bc ss bs w) (hb : Below w.heap.size w W) : Calls Tryd.prog 10 #[imageV a n c ba m bc, .int .i64 1000] W fun e w' => e = .returned (.bool (smallB n ss m bs 1000)) ∧ Below W.heap.size W w' := small_any a n c ba m bc ss bs 1000 W _ (h.B' hb) (h.S hb) (h.M hb)
theorem fr_check (h : FrI a n c ba m bc ss bs w) (hb : Below w.heap.size w W) : Calls Tryd.prog 13 #[imageV a n c ba m bc] W fun e w' => e = .returned (.int .i64 (checkN n ss m bs)) ∧ Below W.heap.size W w' := r8Check_any a n c ba m bc ss bs W _ (h.B' hb) (h.S hb) (h.M hb)
theorem fr_shape (h : FrI a n c ba m bc ss bs w) (hb : Below w.heap.size w W) : Calls Tryd.prog 28 #[imageV a n c ba m bc] W fun e w' => e = .returned (.bool (shapeB n ss m bs)) ∧ Below W.heap.size W w' := r8Shape_any a n c ba m bc ss bs W _ (h.B' hb) (h.S hb) (h.M hb)
/-- Free, where it hands back nothing -/
theorem fr_free0 (h : FrI a n c ba m bc ss bs w) {E : Int} (hE : (if checkN n ss m bs = 0 then (5 : Int) else checkN n ss m bs) = E) (hA : checkN n ss m bs = 0 → allF n ss m bs = []) (hb : Below w.heap.size w W) : Calls Tryd.prog 19 #[imageV a n c ba m bc] W fun e w' => e = .returned (.tuple #[.slice none 0 0, .int .i64 E]) ∧ Below W.heap.size W w' :=
  (Free_any a n c ba m bc ss bs W _ (h.B' hb) (h.S hb) (h.M hb)).mono fun e w' h' => by
    have h2 := h'.2
    by_cases hC : checkN n ss m bs = 0
    · rw [if_pos hC, if_pos (hA hC)] at h2
      rw [if_pos hC] at hE
      subst hE
      exact ⟨h2, h'.1⟩
    · rw [if_neg hC] at h2
      rw [if_neg hC] at hE
      subst hE
      exact ⟨h2, h'.1⟩
theorem fr_free1 (h : FrI a n c ba m bc ss bs w) (hC : checkN n ss m bs = 0) (hA : allF n ss m bs ≠ []) (hb : Below w.heap.size w W) : Calls Tryd.prog 19 #[imageV a n c ba m bc] W fun e w' => (∃ ga gc, e = .returned (.tuple #[.slice ga (freeL (freeC ss m bs (allF n ss m bs)) n).length gc, .int .i64 0]) ∧ Ints w'.heap.size w' ga (freeL (freeC ss m bs (allF n ss m bs)) n).length (fOf (frI (freeC ss m bs (allF n ss m bs)) n))) ∧ Below W.heap.size W w' :=
  (Free_any a n c ba m bc ss bs W _ (h.B' hb) (h.S hb) (h.M hb)).mono fun e w' h' => by
    have h2 := h'.2
    rw [if_pos hC, if_neg hA] at h2
    exact ⟨h2, h'.1⟩
/-- Print, where it hands back nothing -/
theorem fr_print0 (h : FrI a n c ba m bc ss bs w) {wide E : Int} (hE : (if checkF n ss m bs (inB wide 1 40) = 0 then (5 : Int) else checkF n ss m bs (inB wide 1 40)) = E) (hA : checkF n ss m bs (inB wide 1 40) = 0 → allF n ss m bs = []) (hb : Below w.heap.size w W) : Calls Tryd.prog 25 #[imageV a n c ba m bc, .int .i64 wide] W fun e w' => e = .returned (.tuple #[.string ⟨#[]⟩, .int .i64 E]) ∧ Below W.heap.size W w' :=
  (Print_any a n c ba m bc ss bs wide W _ (h.B' hb) (h.S hb) (h.M hb) (h.tab W hb)).mono fun e w' h' => by
    have h2 := h'.2
    by_cases hC : checkF n ss m bs (inB wide 1 40) = 0
    · rw [if_pos hC, if_pos (hA hC)] at h2
      rw [if_pos hC] at hE
      subst hE
      exact ⟨h2, h'.1⟩
    · rw [if_neg hC] at h2
      rw [if_neg hC] at hE
      subst hE
      exact ⟨h2, h'.1⟩
theorem fr_print1 (h : FrI a n c ba m bc ss bs w) {wide : Int} (hC : checkN n ss m bs = 0) (hw : 1 ≤ wide ∧ wide ≤ 40) (hA : allF n ss m bs ≠ []) (hb : Below w.heap.size w W) : Calls Tryd.prog 25 #[imageV a n c ba m bc, .int .i64 wide] W fun e w' => e = .returned (.tuple #[.string ⟨(picT (freeC ss m bs (allF n ss m bs)) (fun i => bnd (fun f => fOf f i) (allF n ss m bs)) n wide.toNat n).toArray⟩, .int .i64 0]) ∧ Below W.heap.size W w' :=
  (Print_any a n c ba m bc ss bs wide W _ (h.B' hb) (h.S hb) (h.M hb) (h.tab W hb)).mono fun e w' h' => by
    have h2 := h'.2
    have hF : checkF n ss m bs (inB wide 1 40) = 0 := by rw [inB_iff.2 hw, checkF_true]; exact hC
    rw [if_pos hF, if_neg hA] at h2
    exact ⟨h2, h'.1⟩
theorem fr_len (hC : checkN n ss m bs = 0) : (allF n ss m bs).length ≤ 200000 := by
  have h1 : longB n ss 200000 = false := by
    cases e : longB n ss 200000
    · rfl
    · have hs := shapeB_iff.2 (checkN_shape hC)
      unfold checkN at hC
      rw [if_neg (by rw [hs]; decide), if_pos e] at hC
      cases hC
  have := allF_le (checkN_shape hC) h1
  omega
theorem fr_all (h : FrI a n c ba m bc ss bs w) (hC : checkN n ss m bs = 0) (hb : Below w.heap.size w W) : Calls Tryd.prog 14 #[imageV a n c ba m bc] W fun e w' => (∃ la lc, e = .returned (.slice la (allF n ss m bs).length lc) ∧ Flds w'.heap.size w' la n (allF n ss m bs)) ∧ Below W.heap.size W w' := by
  have := fr_len hC
  exact r8All_any a n c ba m bc ss bs W _ (h.B' hb) (h.S hb) (h.M hb) (checkN_shape hC) (by omega)
theorem fr_rfree (h : FrI a n c ba m bc ss bs w) (hC : checkN n ss m bs = 0) (hb : Below w.heap.size w W) (la : Option Addr) (lc : Nat) (hF : Flds W.heap.size W la n (allF n ss m bs)) : Calls Tryd.prog 27 #[imageV a n c ba m bc, .slice la (allF n ss m bs).length lc] W fun e w' => (∃ ga gc, e = .returned (.slice ga (freeL (freeC ss m bs (allF n ss m bs)) n).length gc) ∧ Ints w'.heap.size w' ga (freeL (freeC ss m bs (allF n ss m bs)) n).length (fOf (frI (freeC ss m bs (allF n ss m bs)) n))) ∧ Below W.heap.size W w' := by
  have hl := fr_len hC
  have h1 := r8Free_any a n c ba m bc ss bs la lc (allF n ss m bs) W _ (h.B' hb) (h.S hb) (h.M hb) (checkN_shape hC) hF (fun g h => h) (by omega)
  have hfl : freeL (refC ss m bs (allF n ss m bs)) n = freeL (freeC ss m bs (allF n ss m bs)) n := freeL_congr n (fun k hk => refC_eq (checkN_shape hC) hk)
  unfold frI at h1 ⊢
  rw [hfl] at h1
  exact h1
theorem fr_rprint (h : FrI a n c ba m bc ss bs w) {wide : Int} (hC : checkN n ss m bs = 0) (hw : 1 ≤ wide ∧ wide ≤ 40) (hA : allF n ss m bs ≠ []) (hb : Below w.heap.size w W) (la : Option Addr) (lc : Nat) (hF : Flds W.heap.size W la n (allF n ss m bs)) : Calls Tryd.prog 29 #[imageV a n c ba m bc, .slice la (allF n ss m bs).length lc, .int .i64 wide] W fun e w' => e = .returned (.string ⟨(picT (freeC ss m bs (allF n ss m bs)) (fun i => bnd (fun f => fOf f i) (allF n ss m bs)) n wide.toNat n).toArray⟩) ∧ Below W.heap.size W w' := by
  have hl := fr_len hC
  obtain ⟨wd, rfl⟩ : ∃ wd : Nat, wide = (wd : Int) := ⟨wide.toNat, by omega⟩
  rw [Int.toNat_natCast]
  exact r8Print_any a n c ba m bc ss bs la lc wd W _ (h.B' hb) (h.S hb) (h.M hb) (checkN_shape hC) hF hA (by omega) (by omega)
theorem fr_same {K : Nat} {FF : Nat → Int} (hK : K ≤ 1000000) (xa ya : Option Addr) (xc yc : Nat) (h1 : Ints W.heap.size W xa K FF) (h2 : Ints W.heap.size W ya K FF) : Calls Tryd.prog 26 #[.slice xa K xc, .slice ya K yc] W fun e w' => e = .returned (.bool true) ∧ Below W.heap.size W w' := by
  have h := Same_any xa ya K K xc yc FF FF W _ (Nat.le_refl _) h1 h2 (by unfold maxLen; omega) (by unfold maxLen; omega)
  rw [sameB_iff.2 ⟨rfl, fun i _ => rfl⟩] at h
  exact h
end
set_option maxRecDepth 100000 in
set_option maxHeartbeats 4000000 in
theorem Fr_err (a : Option Addr) (n c : Nat) (ba : Option Addr) (m bc : Nat) (ss : Nat → SV) (bs : Nat → BM) (wide : Int) (w : World) (h : FrI a n c ba m bc ss bs w) (hsm : smallB n ss m bs 1000 = true) (hC : checkN n ss m bs ≠ 0) :
    Calls Tryd.prog 5 #[imageV a n c ba m bc, .int .i64 wide] w fun e w' => e = .returned (.bool true) ∧ Below w.heap.size w w' := by
  have HKN := Lib.hid (fun (W : World) (hb : Below w.heap.size w W) => h.known hb)
  have HSM := Lib.hid (fun (W : World) (hb : Below w.heap.size w W) => fr_small h hb)
  have HCH := Lib.hid (fun (W : World) (hb : Below w.heap.size w W) => fr_check h hb)
  have HSP := Lib.hid (fun (W : World) (hb : Below w.heap.size w W) => fr_shape h hb)
  have HFR := Lib.hid (fun (W : World) (hb : Below w.heap.size w W) => fr_free0 h (if_neg hC) (fun e => absurd e hC) hb)
  have hP : checkF n ss m bs (inB wide 1 40) ≠ 0 := fun e => hC (checkF_zero e).1
  have HPR := Lib.hid (fun (W : World) (hb : Below w.heap.size w W) => fr_print0 h (wide := wide) (if_neg hP) (fun e => absurd e hP) hb)
  have hfd : checkF n ss m bs (inB wide 1 40) = if shapeB n ss m bs = false ∨ inB wide 1 40 = false then 2 else if longB n ss 200000 = true then 3 else 0 := rfl
  have hnd : checkN n ss m bs = if shapeB n ss m bs = false then 2 else if longB n ss 200000 = true then 3 else 0 := rfl
  rw [hsm] at HSM
  cases hs : shapeB n ss m bs
  · rw [hs] at hfd hnd HSP
    rw [if_pos (Or.inl rfl)] at hfd
    rw [if_pos rfl] at hnd
    rw [hfd] at HPR
    rw [hnd] at HCH HFR
    clear h hC hP hfd hnd
    go_enter Tryd.func5, Tryd.ntmps5; go_upto_region 1 with (fail); have HL := Lib.hid (show LI a n c ba m bc w (w.alloc (.cells #[.slice a n c, .slice ba m bc] 25)) from LI_start); generalize World.alloc w _ = V at *; obtain ⟨l0, l1, l2, l3⟩ := HL.out
    go_wp2_with (first | (go_at_call 10; refine (HSM.out _ l3).mono ?_; rintro e w2 ⟨rfl, hb2⟩; have HLx := Lib.hid (LI_step HL.out hb2); clear HL hb2; have HL := HLx; clear HLx; (try clear l0 l1 l2 l3); obtain ⟨l0, l1, l2, l3⟩ := HL.out) | (go_at_call 19; refine (HFR.out _ l3).mono ?_; rintro e w3 ⟨rfl, hb3⟩; have HLx := Lib.hid (LI_step HL.out hb3); clear HL hb3; have HL := HLx; clear HLx; (try clear l0 l1 l2 l3); obtain ⟨l0, l1, l2, l3⟩ := HL.out) | (go_at_call 25; refine (HPR.out _ l3).mono ?_; rintro e w4 ⟨rfl, hb4⟩; have HLx := Lib.hid (LI_step HL.out hb4); clear HL hb4; have HL := HLx; clear HLx; (try clear l0 l1 l2 l3); obtain ⟨l0, l1, l2, l3⟩ := HL.out) | (go_at_call 13; refine (HCH.out _ l3).mono ?_; rintro e w5 ⟨rfl, hb5⟩; have HLx := Lib.hid (LI_step HL.out hb5); clear HL hb5; have HL := HLx; clear HLx; (try clear l0 l1 l2 l3); obtain ⟨l0, l1, l2, l3⟩ := HL.out) | (go_at_call 28; refine (HSP.out _ l3).mono ?_; rintro e w9 ⟨rfl, hb9⟩; have HLx := Lib.hid (LI_step HL.out hb9); clear HL hb9; have HL := HLx; clear HLx; (try clear l0 l1 l2 l3); obtain ⟨l0, l1, l2, l3⟩ := HL.out) | (go_at_call 11; refine (HKN.out _ l3).mono ?_; rintro e wb ⟨rfl, hbb⟩; have HLx := Lib.hid (LI_step HL.out hbb); clear HL hbb; have HL := HLx; clear HLx; (try clear l0 l1 l2 l3); obtain ⟨l0, l1, l2, l3⟩ := HL.out))
    go_ret
    exact ⟨rfl, l3⟩
  · rw [hs] at hfd hnd HSP
    rw [if_neg (by decide)] at hnd
    have hl : longB n ss 200000 = true := by
      cases e : longB n ss 200000
      · rw [e] at hnd; exact absurd hnd hC
      · rfl
    rw [hl, if_pos rfl] at hnd
    rw [hnd] at HCH HFR
    by_cases h1 : wide < 1
    · have hin : inB wide 1 40 = false := by cases e : inB wide 1 40; rfl; have := inB_iff.1 e; omega
      rw [if_pos (Or.inr hin)] at hfd
      rw [hfd] at HPR
      clear h hC hP hfd hnd hl hin
      go_enter Tryd.func5, Tryd.ntmps5; go_upto_region 1 with (fail); have HL := Lib.hid (show LI a n c ba m bc w (w.alloc (.cells #[.slice a n c, .slice ba m bc] 25)) from LI_start); generalize World.alloc w _ = V at *; obtain ⟨l0, l1, l2, l3⟩ := HL.out
      go_wp2_with (first | (go_at_call 10; refine (HSM.out _ l3).mono ?_; rintro e w2 ⟨rfl, hb2⟩; have HLx := Lib.hid (LI_step HL.out hb2); clear HL hb2; have HL := HLx; clear HLx; (try clear l0 l1 l2 l3); obtain ⟨l0, l1, l2, l3⟩ := HL.out) | (go_at_call 19; refine (HFR.out _ l3).mono ?_; rintro e w3 ⟨rfl, hb3⟩; have HLx := Lib.hid (LI_step HL.out hb3); clear HL hb3; have HL := HLx; clear HLx; (try clear l0 l1 l2 l3); obtain ⟨l0, l1, l2, l3⟩ := HL.out) | (go_at_call 25; refine (HPR.out _ l3).mono ?_; rintro e w4 ⟨rfl, hb4⟩; have HLx := Lib.hid (LI_step HL.out hb4); clear HL hb4; have HL := HLx; clear HLx; (try clear l0 l1 l2 l3); obtain ⟨l0, l1, l2, l3⟩ := HL.out) | (go_at_call 13; refine (HCH.out _ l3).mono ?_; rintro e w5 ⟨rfl, hb5⟩; have HLx := Lib.hid (LI_step HL.out hb5); clear HL hb5; have HL := HLx; clear HLx; (try clear l0 l1 l2 l3); obtain ⟨l0, l1, l2, l3⟩ := HL.out) | (go_at_call 28; refine (HSP.out _ l3).mono ?_; rintro e w9 ⟨rfl, hb9⟩; have HLx := Lib.hid (LI_step HL.out hb9); clear HL hb9; have HL := HLx; clear HLx; (try clear l0 l1 l2 l3); obtain ⟨l0, l1, l2, l3⟩ := HL.out) | (go_at_call 11; refine (HKN.out _ l3).mono ?_; rintro e wb ⟨rfl, hbb⟩; have HLx := Lib.hid (LI_step HL.out hbb); clear HL hbb; have HL := HLx; clear HLx; (try clear l0 l1 l2 l3); obtain ⟨l0, l1, l2, l3⟩ := HL.out))
      go_ret
      exact ⟨rfl, l3⟩
    · by_cases h2 : 40 < wide
      · have hin : inB wide 1 40 = false := by cases e : inB wide 1 40; rfl; have := inB_iff.1 e; omega
        rw [if_pos (Or.inr hin)] at hfd
        rw [hfd] at HPR
        clear h hC hP hfd hnd hl hin
        go_enter Tryd.func5, Tryd.ntmps5; go_upto_region 1 with (fail); have HL := Lib.hid (show LI a n c ba m bc w (w.alloc (.cells #[.slice a n c, .slice ba m bc] 25)) from LI_start); generalize World.alloc w _ = V at *; obtain ⟨l0, l1, l2, l3⟩ := HL.out
        go_wp2_with (first | (go_at_call 10; refine (HSM.out _ l3).mono ?_; rintro e w2 ⟨rfl, hb2⟩; have HLx := Lib.hid (LI_step HL.out hb2); clear HL hb2; have HL := HLx; clear HLx; (try clear l0 l1 l2 l3); obtain ⟨l0, l1, l2, l3⟩ := HL.out) | (go_at_call 19; refine (HFR.out _ l3).mono ?_; rintro e w3 ⟨rfl, hb3⟩; have HLx := Lib.hid (LI_step HL.out hb3); clear HL hb3; have HL := HLx; clear HLx; (try clear l0 l1 l2 l3); obtain ⟨l0, l1, l2, l3⟩ := HL.out) | (go_at_call 25; refine (HPR.out _ l3).mono ?_; rintro e w4 ⟨rfl, hb4⟩; have HLx := Lib.hid (LI_step HL.out hb4); clear HL hb4; have HL := HLx; clear HLx; (try clear l0 l1 l2 l3); obtain ⟨l0, l1, l2, l3⟩ := HL.out) | (go_at_call 13; refine (HCH.out _ l3).mono ?_; rintro e w5 ⟨rfl, hb5⟩; have HLx := Lib.hid (LI_step HL.out hb5); clear HL hb5; have HL := HLx; clear HLx; (try clear l0 l1 l2 l3); obtain ⟨l0, l1, l2, l3⟩ := HL.out) | (go_at_call 28; refine (HSP.out _ l3).mono ?_; rintro e w9 ⟨rfl, hb9⟩; have HLx := Lib.hid (LI_step HL.out hb9); clear HL hb9; have HL := HLx; clear HLx; (try clear l0 l1 l2 l3); obtain ⟨l0, l1, l2, l3⟩ := HL.out) | (go_at_call 11; refine (HKN.out _ l3).mono ?_; rintro e wb ⟨rfl, hbb⟩; have HLx := Lib.hid (LI_step HL.out hbb); clear HL hbb; have HL := HLx; clear HLx; (try clear l0 l1 l2 l3); obtain ⟨l0, l1, l2, l3⟩ := HL.out))
        go_ret
        exact ⟨rfl, l3⟩
      · have hin : inB wide 1 40 = true := inB_iff.2 ⟨by omega, by omega⟩
        rw [hin, if_neg (by decide), hl, if_pos rfl] at hfd
        rw [hin, hfd] at HPR
        clear h hC hP hfd hnd hl hin
        go_enter Tryd.func5, Tryd.ntmps5; go_upto_region 1 with (fail); have HL := Lib.hid (show LI a n c ba m bc w (w.alloc (.cells #[.slice a n c, .slice ba m bc] 25)) from LI_start); generalize World.alloc w _ = V at *; obtain ⟨l0, l1, l2, l3⟩ := HL.out
        go_wp2_with (first | (go_at_call 10; refine (HSM.out _ l3).mono ?_; rintro e w2 ⟨rfl, hb2⟩; have HLx := Lib.hid (LI_step HL.out hb2); clear HL hb2; have HL := HLx; clear HLx; (try clear l0 l1 l2 l3); obtain ⟨l0, l1, l2, l3⟩ := HL.out) | (go_at_call 19; refine (HFR.out _ l3).mono ?_; rintro e w3 ⟨rfl, hb3⟩; have HLx := Lib.hid (LI_step HL.out hb3); clear HL hb3; have HL := HLx; clear HLx; (try clear l0 l1 l2 l3); obtain ⟨l0, l1, l2, l3⟩ := HL.out) | (go_at_call 25; refine (HPR.out _ l3).mono ?_; rintro e w4 ⟨rfl, hb4⟩; have HLx := Lib.hid (LI_step HL.out hb4); clear HL hb4; have HL := HLx; clear HLx; (try clear l0 l1 l2 l3); obtain ⟨l0, l1, l2, l3⟩ := HL.out) | (go_at_call 13; refine (HCH.out _ l3).mono ?_; rintro e w5 ⟨rfl, hb5⟩; have HLx := Lib.hid (LI_step HL.out hb5); clear HL hb5; have HL := HLx; clear HLx; (try clear l0 l1 l2 l3); obtain ⟨l0, l1, l2, l3⟩ := HL.out) | (go_at_call 28; refine (HSP.out _ l3).mono ?_; rintro e w9 ⟨rfl, hb9⟩; have HLx := Lib.hid (LI_step HL.out hb9); clear HL hb9; have HL := HLx; clear HLx; (try clear l0 l1 l2 l3); obtain ⟨l0, l1, l2, l3⟩ := HL.out) | (go_at_call 11; refine (HKN.out _ l3).mono ?_; rintro e wb ⟨rfl, hbb⟩; have HLx := Lib.hid (LI_step HL.out hbb); clear HL hbb; have HL := HLx; clear HLx; (try clear l0 l1 l2 l3); obtain ⟨l0, l1, l2, l3⟩ := HL.out))
        go_ret
        exact ⟨rfl, l3⟩
set_option maxRecDepth 100000 in
set_option maxHeartbeats 4000000 in
theorem Fr_none (a : Option Addr) (n c : Nat) (ba : Option Addr) (m bc : Nat) (ss : Nat → SV) (bs : Nat → BM) (wide : Int) (w : World) (h : FrI a n c ba m bc ss bs w) (hsm : smallB n ss m bs 1000 = true) (hC : checkN n ss m bs = 0) (hA : allF n ss m bs = []) :
    Calls Tryd.prog 5 #[imageV a n c ba m bc, .int .i64 wide] w fun e w' => e = .returned (.bool true) ∧ Below w.heap.size w w' := by
  have HKN := Lib.hid (fun (W : World) (hb : Below w.heap.size w W) => h.known hb)
  have HSM := Lib.hid (fun (W : World) (hb : Below w.heap.size w W) => fr_small h hb)
  have HCH := Lib.hid (fun (W : World) (hb : Below w.heap.size w W) => fr_check h hb)
  have HSP := Lib.hid (fun (W : World) (hb : Below w.heap.size w W) => fr_shape h hb)
  have HFR := Lib.hid (fun (W : World) (hb : Below w.heap.size w W) => fr_free0 h (if_pos hC) (fun _ => hA) hb)
  have HPR0 := Lib.hid (fun (E : Int) hE (W : World) (hb : Below w.heap.size w W) => fr_print0 h (wide := wide) (E := E) hE (fun _ => hA) hb)
  have HAL := Lib.hid (fun (W : World) (hb : Below w.heap.size w W) => fr_all h hC hb)
  rw [hA] at HAL
  rw [hsm] at HSM
  rw [hC] at HCH
  have hs := shapeB_iff.2 (checkN_shape hC)
  rw [hs] at HSP
  by_cases h1 : wide < 1
  · have hin : inB wide 1 40 = false := by cases e : inB wide 1 40; rfl; have := inB_iff.1 e; omega
    have hP : checkF n ss m bs (inB wide 1 40) = 2 := by unfold checkF; rw [if_pos (Or.inr hin)]
    have HPR := Lib.hid (HPR0.out 2 (by rw [hP]; rfl))
    clear h hC hP hs hin HPR0 hA
    go_enter Tryd.func5, Tryd.ntmps5; go_upto_region 1 with (fail); have HL := Lib.hid (show LI a n c ba m bc w (w.alloc (.cells #[.slice a n c, .slice ba m bc] 25)) from LI_start); generalize World.alloc w _ = V at *; obtain ⟨l0, l1, l2, l3⟩ := HL.out
    go_wp2_with (first | (go_at_call 10; refine (HSM.out _ l3).mono ?_; rintro e w2 ⟨rfl, hb2⟩; have HLx := Lib.hid (LI_step HL.out hb2); clear HL hb2; have HL := HLx; clear HLx; (try clear l0 l1 l2 l3); obtain ⟨l0, l1, l2, l3⟩ := HL.out) | (go_at_call 19; refine (HFR.out _ l3).mono ?_; rintro e w3 ⟨rfl, hb3⟩; have HLx := Lib.hid (LI_step HL.out hb3); clear HL hb3; have HL := HLx; clear HLx; (try clear l0 l1 l2 l3); obtain ⟨l0, l1, l2, l3⟩ := HL.out) | (go_at_call 25; refine (HPR.out _ l3).mono ?_; rintro e w4 ⟨rfl, hb4⟩; have HLx := Lib.hid (LI_step HL.out hb4); clear HL hb4; have HL := HLx; clear HLx; (try clear l0 l1 l2 l3); obtain ⟨l0, l1, l2, l3⟩ := HL.out) | (go_at_call 13; refine (HCH.out _ l3).mono ?_; rintro e w5 ⟨rfl, hb5⟩; have HLx := Lib.hid (LI_step HL.out hb5); clear HL hb5; have HL := HLx; clear HLx; (try clear l0 l1 l2 l3); obtain ⟨l0, l1, l2, l3⟩ := HL.out) | (go_at_call 14; refine (HAL.out _ l3).mono ?_; rintro e w6 ⟨⟨la, lc, rfl, hX⟩, hb6⟩; clear hX; have HLx := Lib.hid (LI_step HL.out hb6); clear HL hb6; have HL := HLx; clear HLx; (try clear l0 l1 l2 l3); obtain ⟨l0, l1, l2, l3⟩ := HL.out) | (go_at_call 28; refine (HSP.out _ l3).mono ?_; rintro e w9 ⟨rfl, hb9⟩; have HLx := Lib.hid (LI_step HL.out hb9); clear HL hb9; have HL := HLx; clear HLx; (try clear l0 l1 l2 l3); obtain ⟨l0, l1, l2, l3⟩ := HL.out) | (go_at_call 11; refine (HKN.out _ l3).mono ?_; rintro e wb ⟨rfl, hbb⟩; have HLx := Lib.hid (LI_step HL.out hbb); clear HL hbb; have HL := HLx; clear HLx; (try clear l0 l1 l2 l3); obtain ⟨l0, l1, l2, l3⟩ := HL.out))
    go_ret
    exact ⟨rfl, l3⟩
  · by_cases h2 : 40 < wide
    · have hin : inB wide 1 40 = false := by cases e : inB wide 1 40; rfl; have := inB_iff.1 e; omega
      have hP : checkF n ss m bs (inB wide 1 40) = 2 := by unfold checkF; rw [if_pos (Or.inr hin)]
      have HPR := Lib.hid (HPR0.out 2 (by rw [hP]; rfl))
      clear h hC hP hs hin HPR0 hA
      go_enter Tryd.func5, Tryd.ntmps5; go_upto_region 1 with (fail); have HL := Lib.hid (show LI a n c ba m bc w (w.alloc (.cells #[.slice a n c, .slice ba m bc] 25)) from LI_start); generalize World.alloc w _ = V at *; obtain ⟨l0, l1, l2, l3⟩ := HL.out
      go_wp2_with (first | (go_at_call 10; refine (HSM.out _ l3).mono ?_; rintro e w2 ⟨rfl, hb2⟩; have HLx := Lib.hid (LI_step HL.out hb2); clear HL hb2; have HL := HLx; clear HLx; (try clear l0 l1 l2 l3); obtain ⟨l0, l1, l2, l3⟩ := HL.out) | (go_at_call 19; refine (HFR.out _ l3).mono ?_; rintro e w3 ⟨rfl, hb3⟩; have HLx := Lib.hid (LI_step HL.out hb3); clear HL hb3; have HL := HLx; clear HLx; (try clear l0 l1 l2 l3); obtain ⟨l0, l1, l2, l3⟩ := HL.out) | (go_at_call 25; refine (HPR.out _ l3).mono ?_; rintro e w4 ⟨rfl, hb4⟩; have HLx := Lib.hid (LI_step HL.out hb4); clear HL hb4; have HL := HLx; clear HLx; (try clear l0 l1 l2 l3); obtain ⟨l0, l1, l2, l3⟩ := HL.out) | (go_at_call 13; refine (HCH.out _ l3).mono ?_; rintro e w5 ⟨rfl, hb5⟩; have HLx := Lib.hid (LI_step HL.out hb5); clear HL hb5; have HL := HLx; clear HLx; (try clear l0 l1 l2 l3); obtain ⟨l0, l1, l2, l3⟩ := HL.out) | (go_at_call 14; refine (HAL.out _ l3).mono ?_; rintro e w6 ⟨⟨la, lc, rfl, hX⟩, hb6⟩; clear hX; have HLx := Lib.hid (LI_step HL.out hb6); clear HL hb6; have HL := HLx; clear HLx; (try clear l0 l1 l2 l3); obtain ⟨l0, l1, l2, l3⟩ := HL.out) | (go_at_call 28; refine (HSP.out _ l3).mono ?_; rintro e w9 ⟨rfl, hb9⟩; have HLx := Lib.hid (LI_step HL.out hb9); clear HL hb9; have HL := HLx; clear HLx; (try clear l0 l1 l2 l3); obtain ⟨l0, l1, l2, l3⟩ := HL.out) | (go_at_call 11; refine (HKN.out _ l3).mono ?_; rintro e wb ⟨rfl, hbb⟩; have HLx := Lib.hid (LI_step HL.out hbb); clear HL hbb; have HL := HLx; clear HLx; (try clear l0 l1 l2 l3); obtain ⟨l0, l1, l2, l3⟩ := HL.out))
      go_ret
      exact ⟨rfl, l3⟩
    · have hin : inB wide 1 40 = true := inB_iff.2 ⟨by omega, by omega⟩
      have hP : checkF n ss m bs (inB wide 1 40) = 0 := by rw [hin, checkF_true]; exact hC
      have HPR := Lib.hid (HPR0.out 5 (by rw [hP]; rfl))
      clear h hC hP hs hin HPR0 hA
      go_enter Tryd.func5, Tryd.ntmps5; go_upto_region 1 with (fail); have HL := Lib.hid (show LI a n c ba m bc w (w.alloc (.cells #[.slice a n c, .slice ba m bc] 25)) from LI_start); generalize World.alloc w _ = V at *; obtain ⟨l0, l1, l2, l3⟩ := HL.out
      go_wp2_with (first | (go_at_call 10; refine (HSM.out _ l3).mono ?_; rintro e w2 ⟨rfl, hb2⟩; have HLx := Lib.hid (LI_step HL.out hb2); clear HL hb2; have HL := HLx; clear HLx; (try clear l0 l1 l2 l3); obtain ⟨l0, l1, l2, l3⟩ := HL.out) | (go_at_call 19; refine (HFR.out _ l3).mono ?_; rintro e w3 ⟨rfl, hb3⟩; have HLx := Lib.hid (LI_step HL.out hb3); clear HL hb3; have HL := HLx; clear HLx; (try clear l0 l1 l2 l3); obtain ⟨l0, l1, l2, l3⟩ := HL.out) | (go_at_call 25; refine (HPR.out _ l3).mono ?_; rintro e w4 ⟨rfl, hb4⟩; have HLx := Lib.hid (LI_step HL.out hb4); clear HL hb4; have HL := HLx; clear HLx; (try clear l0 l1 l2 l3); obtain ⟨l0, l1, l2, l3⟩ := HL.out) | (go_at_call 13; refine (HCH.out _ l3).mono ?_; rintro e w5 ⟨rfl, hb5⟩; have HLx := Lib.hid (LI_step HL.out hb5); clear HL hb5; have HL := HLx; clear HLx; (try clear l0 l1 l2 l3); obtain ⟨l0, l1, l2, l3⟩ := HL.out) | (go_at_call 14; refine (HAL.out _ l3).mono ?_; rintro e w6 ⟨⟨la, lc, rfl, hX⟩, hb6⟩; clear hX; have HLx := Lib.hid (LI_step HL.out hb6); clear HL hb6; have HL := HLx; clear HLx; (try clear l0 l1 l2 l3); obtain ⟨l0, l1, l2, l3⟩ := HL.out) | (go_at_call 28; refine (HSP.out _ l3).mono ?_; rintro e w9 ⟨rfl, hb9⟩; have HLx := Lib.hid (LI_step HL.out hb9); clear HL hb9; have HL := HLx; clear HLx; (try clear l0 l1 l2 l3); obtain ⟨l0, l1, l2, l3⟩ := HL.out) | (go_at_call 11; refine (HKN.out _ l3).mono ?_; rintro e wb ⟨rfl, hbb⟩; have HLx := Lib.hid (LI_step HL.out hbb); clear HL hbb; have HL := HLx; clear HLx; (try clear l0 l1 l2 l3); obtain ⟨l0, l1, l2, l3⟩ := HL.out))
      go_ret
      exact ⟨rfl, l3⟩
set_option maxRecDepth 100000 in
set_option maxHeartbeats 4000000 in
theorem Fr_ok (a : Option Addr) (n c : Nat) (ba : Option Addr) (m bc : Nat) (ss : Nat → SV) (bs : Nat → BM) (wide : Int) (w : World) (h : FrI a n c ba m bc ss bs w) (hsm : smallB n ss m bs 1000 = true) (hC : checkN n ss m bs = 0) (hA : allF n ss m bs ≠ []) :
    Calls Tryd.prog 5 #[imageV a n c ba m bc, .int .i64 wide] w fun e w' => e = .returned (.bool true) ∧ Below w.heap.size w w' := by
  have HKN := Lib.hid (fun (W : World) (hb : Below w.heap.size w W) => h.known hb)
  have HSM := Lib.hid (fun (W : World) (hb : Below w.heap.size w W) => fr_small h hb)
  have HCH := Lib.hid (fun (W : World) (hb : Below w.heap.size w W) => fr_check h hb)
  have HSP := Lib.hid (fun (W : World) (hb : Below w.heap.size w W) => fr_shape h hb)
  have HFR := Lib.hid (fun (W : World) (hb : Below w.heap.size w W) => fr_free1 h hC hA hb)
  have HPR0 := Lib.hid (fun (E : Int) hE hX (W : World) (hb : Below w.heap.size w W) => fr_print0 h (wide := wide) (E := E) hE hX hb)
  have HPR1 := Lib.hid (fun hw (W : World) (hb : Below w.heap.size w W) => fr_print1 h (wide := wide) hC hw hA hb)
  have HAL := Lib.hid (fun (W : World) (hb : Below w.heap.size w W) => fr_all h hC hb)
  have HRF := Lib.hid (fun (W : World) (hb : Below w.heap.size w W) la lc hF => fr_rfree h hC hb la lc hF)
  have HRP1 := Lib.hid (fun hw (W : World) (hb : Below w.heap.size w W) la lc hF => fr_rprint h (wide := wide) hC hw hA hb la lc hF)
  have hlp : (allF n ss m bs).length ≠ 0 := fun e => hA (List.eq_nil_of_length_eq_zero e)
  have hK : (freeL (freeC ss m bs (allF n ss m bs)) n).length ≤ 1000000 := by
    have h1 := freeL_len (freeC ss m bs (allF n ss m bs)) n
    have h2 := (checkN_shape hC).n40
    omega
  rw [hsm] at HSM
  rw [hC] at HCH
  have hs := shapeB_iff.2 (checkN_shape hC)
  rw [hs] at HSP
  by_cases h1 : wide < 1
  · have hin : inB wide 1 40 = false := by cases e : inB wide 1 40; rfl; have := inB_iff.1 e; omega
    have hP : checkF n ss m bs (inB wide 1 40) = 2 := by unfold checkF; rw [if_pos (Or.inr hin)]
    have HPR := Lib.hid (HPR0.out 2 (by rw [hP]; rfl) (fun e => by rw [hP] at e; cases e))
    clear h hC hP hs hin HPR0 HPR1 HRP1 hA
    generalize (freeL (freeC ss m bs (allF n ss m bs)) n).length = K at *; generalize fOf (frI (freeC ss m bs (allF n ss m bs)) n) = FF at *; generalize allF n ss m bs = AL at *; obtain ⟨ll, hll⟩ : ∃ ll, AL.length = ll := ⟨_, rfl⟩; rw [hll] at HAL HRF hlp; (try rw [hll] at HRP); have hl0 : ((ll : Int) == 0) = false := (by rw [beq_eq_false_iff_ne]; omega); clear hll
    go_enter Tryd.func5, Tryd.ntmps5; go_upto_region 1 with (fail); have HL := Lib.hid (show LI a n c ba m bc w (w.alloc (.cells #[.slice a n c, .slice ba m bc] 25)) from LI_start); generalize World.alloc w _ = V at *; obtain ⟨l0, l1, l2, l3⟩ := HL.out
    go_wp2_with (first | (go_at_call 10; refine (HSM.out _ l3).mono ?_; rintro e w2 ⟨rfl, hb2⟩; have HLx := Lib.hid (LI_step HL.out hb2); clear HL hb2; have HL := HLx; clear HLx; (try clear l0 l1 l2 l3); obtain ⟨l0, l1, l2, l3⟩ := HL.out) | (go_at_call 19; refine (HFR.out _ l3).mono ?_; rintro e w3 ⟨⟨ga, gc, rfl, hG⟩, hb3⟩; have HG := Lib.hid hG; clear hG; have HLx := Lib.hid (LI_step HL.out hb3); clear HL hb3; have HL := HLx; clear HLx; (try clear l0 l1 l2 l3); obtain ⟨l0, l1, l2, l3⟩ := HL.out) | (go_at_call 25; refine (HPR.out _ l3).mono ?_; rintro e w4 ⟨rfl, hb4⟩; have HGx := Lib.hid ((HG.out.below hb4).up (hb4).size); clear HG; have HG := HGx; clear HGx; have HLx := Lib.hid (LI_step HL.out hb4); clear HL hb4; have HL := HLx; clear HLx; (try clear l0 l1 l2 l3); obtain ⟨l0, l1, l2, l3⟩ := HL.out) | (go_at_call 13; refine (HCH.out _ l3).mono ?_; rintro e w5 ⟨rfl, hb5⟩; have HGx := Lib.hid ((HG.out.below hb5).up (hb5).size); clear HG; have HG := HGx; clear HGx; have HLx := Lib.hid (LI_step HL.out hb5); clear HL hb5; have HL := HLx; clear HLx; (try clear l0 l1 l2 l3); obtain ⟨l0, l1, l2, l3⟩ := HL.out) | (go_at_call 14; refine (HAL.out _ l3).mono ?_; rintro e w6 ⟨⟨la, lc, rfl, hX⟩, hb6⟩; have HX := Lib.hid hX; clear hX; have HGx := Lib.hid ((HG.out.below hb6).up (hb6).size); clear HG; have HG := HGx; clear HGx; have HLx := Lib.hid (LI_step HL.out hb6); clear HL hb6; have HL := HLx; clear HLx; (try clear l0 l1 l2 l3); obtain ⟨l0, l1, l2, l3⟩ := HL.out) | (go_at_call 27; refine (HRF.out _ l3 la lc HX.out).mono ?_; rintro e w7 ⟨⟨ra, rc, rfl, hH⟩, hb7⟩; have HH := Lib.hid hH; clear hH; have HGx := Lib.hid ((HG.out.below hb7).up (hb7).size); clear HG; have HG := HGx; clear HGx; have HXx := Lib.hid ((HX.out.below hb7).up (hb7).size); clear HX; have HX := HXx; clear HXx; have HLx := Lib.hid (LI_step HL.out hb7); clear HL hb7; have HL := HLx; clear HLx; (try clear l0 l1 l2 l3); obtain ⟨l0, l1, l2, l3⟩ := HL.out) | (go_at_call 26; refine (fr_same hK _ _ _ _ HG.out HH.out).mono ?_; rintro e w8 ⟨rfl, hb8⟩; clear HG HH; have HXx := Lib.hid ((HX.out.below hb8).up (hb8).size); clear HX; have HX := HXx; clear HXx; have HLx := Lib.hid (LI_step HL.out hb8); clear HL hb8; have HL := HLx; clear HLx; (try clear l0 l1 l2 l3); obtain ⟨l0, l1, l2, l3⟩ := HL.out) | (go_at_call 28; refine (HSP.out _ l3).mono ?_; rintro e w9 ⟨rfl, hb9⟩; have HXx := Lib.hid ((HX.out.below hb9).up (hb9).size); clear HX; have HX := HXx; clear HXx; have HLx := Lib.hid (LI_step HL.out hb9); clear HL hb9; have HL := HLx; clear HLx; (try clear l0 l1 l2 l3); obtain ⟨l0, l1, l2, l3⟩ := HL.out) | (go_at_call 11; refine (HKN.out _ l3).mono ?_; rintro e wb ⟨rfl, hbb⟩; have HLx := Lib.hid (LI_step HL.out hbb); clear HL hbb; have HL := HLx; clear HLx; (try clear l0 l1 l2 l3); obtain ⟨l0, l1, l2, l3⟩ := HL.out))
    go_ret
    exact ⟨rfl, l3⟩
  · by_cases h2 : 40 < wide
    · have hin : inB wide 1 40 = false := by cases e : inB wide 1 40; rfl; have := inB_iff.1 e; omega
      have hP : checkF n ss m bs (inB wide 1 40) = 2 := by unfold checkF; rw [if_pos (Or.inr hin)]
      have HPR := Lib.hid (HPR0.out 2 (by rw [hP]; rfl) (fun e => by rw [hP] at e; cases e))
      clear h hC hP hs hin HPR0 HPR1 HRP1 hA
      generalize (freeL (freeC ss m bs (allF n ss m bs)) n).length = K at *; generalize fOf (frI (freeC ss m bs (allF n ss m bs)) n) = FF at *; generalize allF n ss m bs = AL at *; obtain ⟨ll, hll⟩ : ∃ ll, AL.length = ll := ⟨_, rfl⟩; rw [hll] at HAL HRF hlp; (try rw [hll] at HRP); have hl0 : ((ll : Int) == 0) = false := (by rw [beq_eq_false_iff_ne]; omega); clear hll
      go_enter Tryd.func5, Tryd.ntmps5; go_upto_region 1 with (fail); have HL := Lib.hid (show LI a n c ba m bc w (w.alloc (.cells #[.slice a n c, .slice ba m bc] 25)) from LI_start); generalize World.alloc w _ = V at *; obtain ⟨l0, l1, l2, l3⟩ := HL.out
      go_wp2_with (first | (go_at_call 10; refine (HSM.out _ l3).mono ?_; rintro e w2 ⟨rfl, hb2⟩; have HLx := Lib.hid (LI_step HL.out hb2); clear HL hb2; have HL := HLx; clear HLx; (try clear l0 l1 l2 l3); obtain ⟨l0, l1, l2, l3⟩ := HL.out) | (go_at_call 19; refine (HFR.out _ l3).mono ?_; rintro e w3 ⟨⟨ga, gc, rfl, hG⟩, hb3⟩; have HG := Lib.hid hG; clear hG; have HLx := Lib.hid (LI_step HL.out hb3); clear HL hb3; have HL := HLx; clear HLx; (try clear l0 l1 l2 l3); obtain ⟨l0, l1, l2, l3⟩ := HL.out) | (go_at_call 25; refine (HPR.out _ l3).mono ?_; rintro e w4 ⟨rfl, hb4⟩; have HGx := Lib.hid ((HG.out.below hb4).up (hb4).size); clear HG; have HG := HGx; clear HGx; have HLx := Lib.hid (LI_step HL.out hb4); clear HL hb4; have HL := HLx; clear HLx; (try clear l0 l1 l2 l3); obtain ⟨l0, l1, l2, l3⟩ := HL.out) | (go_at_call 13; refine (HCH.out _ l3).mono ?_; rintro e w5 ⟨rfl, hb5⟩; have HGx := Lib.hid ((HG.out.below hb5).up (hb5).size); clear HG; have HG := HGx; clear HGx; have HLx := Lib.hid (LI_step HL.out hb5); clear HL hb5; have HL := HLx; clear HLx; (try clear l0 l1 l2 l3); obtain ⟨l0, l1, l2, l3⟩ := HL.out) | (go_at_call 14; refine (HAL.out _ l3).mono ?_; rintro e w6 ⟨⟨la, lc, rfl, hX⟩, hb6⟩; have HX := Lib.hid hX; clear hX; have HGx := Lib.hid ((HG.out.below hb6).up (hb6).size); clear HG; have HG := HGx; clear HGx; have HLx := Lib.hid (LI_step HL.out hb6); clear HL hb6; have HL := HLx; clear HLx; (try clear l0 l1 l2 l3); obtain ⟨l0, l1, l2, l3⟩ := HL.out) | (go_at_call 27; refine (HRF.out _ l3 la lc HX.out).mono ?_; rintro e w7 ⟨⟨ra, rc, rfl, hH⟩, hb7⟩; have HH := Lib.hid hH; clear hH; have HGx := Lib.hid ((HG.out.below hb7).up (hb7).size); clear HG; have HG := HGx; clear HGx; have HXx := Lib.hid ((HX.out.below hb7).up (hb7).size); clear HX; have HX := HXx; clear HXx; have HLx := Lib.hid (LI_step HL.out hb7); clear HL hb7; have HL := HLx; clear HLx; (try clear l0 l1 l2 l3); obtain ⟨l0, l1, l2, l3⟩ := HL.out) | (go_at_call 26; refine (fr_same hK _ _ _ _ HG.out HH.out).mono ?_; rintro e w8 ⟨rfl, hb8⟩; clear HG HH; have HXx := Lib.hid ((HX.out.below hb8).up (hb8).size); clear HX; have HX := HXx; clear HXx; have HLx := Lib.hid (LI_step HL.out hb8); clear HL hb8; have HL := HLx; clear HLx; (try clear l0 l1 l2 l3); obtain ⟨l0, l1, l2, l3⟩ := HL.out) | (go_at_call 28; refine (HSP.out _ l3).mono ?_; rintro e w9 ⟨rfl, hb9⟩; have HXx := Lib.hid ((HX.out.below hb9).up (hb9).size); clear HX; have HX := HXx; clear HXx; have HLx := Lib.hid (LI_step HL.out hb9); clear HL hb9; have HL := HLx; clear HLx; (try clear l0 l1 l2 l3); obtain ⟨l0, l1, l2, l3⟩ := HL.out) | (go_at_call 11; refine (HKN.out _ l3).mono ?_; rintro e wb ⟨rfl, hbb⟩; have HLx := Lib.hid (LI_step HL.out hbb); clear HL hbb; have HL := HLx; clear HLx; (try clear l0 l1 l2 l3); obtain ⟨l0, l1, l2, l3⟩ := HL.out))
      go_ret
      exact ⟨rfl, l3⟩
    · have hw : 1 ≤ wide ∧ wide ≤ 40 := ⟨by omega, by omega⟩
      have HPR := Lib.hid (HPR1.out hw)
      have HRP := Lib.hid (HRP1.out hw)
      clear h hC hs HPR0 HPR1 HRP1 hA hw
      generalize picT (freeC ss m bs (allF n ss m bs)) (fun i => bnd (fun f => fOf f i) (allF n ss m bs)) n wide.toNat n = PT at *
      generalize (freeL (freeC ss m bs (allF n ss m bs)) n).length = K at *; generalize fOf (frI (freeC ss m bs (allF n ss m bs)) n) = FF at *; generalize allF n ss m bs = AL at *; obtain ⟨ll, hll⟩ : ∃ ll, AL.length = ll := ⟨_, rfl⟩; rw [hll] at HAL HRF hlp; (try rw [hll] at HRP); have hl0 : ((ll : Int) == 0) = false := (by rw [beq_eq_false_iff_ne]; omega); clear hll
      go_enter Tryd.func5, Tryd.ntmps5; go_upto_region 1 with (fail); have HL := Lib.hid (show LI a n c ba m bc w (w.alloc (.cells #[.slice a n c, .slice ba m bc] 25)) from LI_start); generalize World.alloc w _ = V at *; obtain ⟨l0, l1, l2, l3⟩ := HL.out
      go_wp2_with (first | (go_at_call 10; refine (HSM.out _ l3).mono ?_; rintro e w2 ⟨rfl, hb2⟩; have HLx := Lib.hid (LI_step HL.out hb2); clear HL hb2; have HL := HLx; clear HLx; (try clear l0 l1 l2 l3); obtain ⟨l0, l1, l2, l3⟩ := HL.out) | (go_at_call 19; refine (HFR.out _ l3).mono ?_; rintro e w3 ⟨⟨ga, gc, rfl, hG⟩, hb3⟩; have HG := Lib.hid hG; clear hG; have HLx := Lib.hid (LI_step HL.out hb3); clear HL hb3; have HL := HLx; clear HLx; (try clear l0 l1 l2 l3); obtain ⟨l0, l1, l2, l3⟩ := HL.out) | (go_at_call 25; refine (HPR.out _ l3).mono ?_; rintro e w4 ⟨rfl, hb4⟩; have HGx := Lib.hid ((HG.out.below hb4).up (hb4).size); clear HG; have HG := HGx; clear HGx; have HLx := Lib.hid (LI_step HL.out hb4); clear HL hb4; have HL := HLx; clear HLx; (try clear l0 l1 l2 l3); obtain ⟨l0, l1, l2, l3⟩ := HL.out) | (go_at_call 13; refine (HCH.out _ l3).mono ?_; rintro e w5 ⟨rfl, hb5⟩; have HGx := Lib.hid ((HG.out.below hb5).up (hb5).size); clear HG; have HG := HGx; clear HGx; have HLx := Lib.hid (LI_step HL.out hb5); clear HL hb5; have HL := HLx; clear HLx; (try clear l0 l1 l2 l3); obtain ⟨l0, l1, l2, l3⟩ := HL.out) | (go_at_call 14; refine (HAL.out _ l3).mono ?_; rintro e w6 ⟨⟨la, lc, rfl, hX⟩, hb6⟩; have HX := Lib.hid hX; clear hX; have HGx := Lib.hid ((HG.out.below hb6).up (hb6).size); clear HG; have HG := HGx; clear HGx; have HLx := Lib.hid (LI_step HL.out hb6); clear HL hb6; have HL := HLx; clear HLx; (try clear l0 l1 l2 l3); obtain ⟨l0, l1, l2, l3⟩ := HL.out) | (go_at_call 27; refine (HRF.out _ l3 la lc HX.out).mono ?_; rintro e w7 ⟨⟨ra, rc, rfl, hH⟩, hb7⟩; have HH := Lib.hid hH; clear hH; have HGx := Lib.hid ((HG.out.below hb7).up (hb7).size); clear HG; have HG := HGx; clear HGx; have HXx := Lib.hid ((HX.out.below hb7).up (hb7).size); clear HX; have HX := HXx; clear HXx; have HLx := Lib.hid (LI_step HL.out hb7); clear HL hb7; have HL := HLx; clear HLx; (try clear l0 l1 l2 l3); obtain ⟨l0, l1, l2, l3⟩ := HL.out) | (go_at_call 26; refine (fr_same hK _ _ _ _ HG.out HH.out).mono ?_; rintro e w8 ⟨rfl, hb8⟩; clear HG HH; have HXx := Lib.hid ((HX.out.below hb8).up (hb8).size); clear HX; have HX := HXx; clear HXx; have HLx := Lib.hid (LI_step HL.out hb8); clear HL hb8; have HL := HLx; clear HLx; (try clear l0 l1 l2 l3); obtain ⟨l0, l1, l2, l3⟩ := HL.out) | (go_at_call 28; refine (HSP.out _ l3).mono ?_; rintro e w9 ⟨rfl, hb9⟩; have HXx := Lib.hid ((HX.out.below hb9).up (hb9).size); clear HX; have HX := HXx; clear HXx; have HLx := Lib.hid (LI_step HL.out hb9); clear HL hb9; have HL := HLx; clear HLx; (try clear l0 l1 l2 l3); obtain ⟨l0, l1, l2, l3⟩ := HL.out) | (go_at_call 29; refine (HRP.out _ l3 la lc HX.out).mono ?_; rintro e wa ⟨rfl, hba⟩; clear HX; have HLx := Lib.hid (LI_step HL.out hba); clear HL hba; have HL := HLx; clear HLx; (try clear l0 l1 l2 l3); obtain ⟨l0, l1, l2, l3⟩ := HL.out) | (go_at_call 11; refine (HKN.out _ l3).mono ?_; rintro e wb ⟨rfl, hbb⟩; have HLx := Lib.hid (LI_step HL.out hbb); clear HL hbb; have HL := HLx; clear HLx; (try clear l0 l1 l2 l3); obtain ⟨l0, l1, l2, l3⟩ := HL.out))
      go_ret
      exact ⟨rfl, l3⟩
set_option maxRecDepth 100000 in
set_option maxHeartbeats 4000000 in
theorem ImageFree_any (a : Option Addr) (n c : Nat) (ba : Option Addr) (m bc : Nat) (ss : Nat → SV) (bs : Nat → BM) (wide : Int) (w : World) (B : Nat) (hBw : B ≤ w.heap.size) (hS : Spans B w a n ss) (hM : Beams B w ba m bs) (ht : Lib.TabIs Tryd.prog w "internal/strconv.uint64pow10" .u64 Lib.pow10Tab) :
    Calls Tryd.prog 5 #[imageV a n c ba m bc, .int .i64 wide] w fun e w' => e = .returned (.bool true) ∧ Below w.heap.size w w' := by
  have h : FrI a n c ba m bc ss bs w := ⟨Nat.le_refl _, hS.up hBw, hM.up hBw, Lib.tabBelow_of_tabIs ht⟩
  cases hsm : smallB n ss m bs 1000
  · have HKN := Lib.hid (fun (W : World) (hb : Below w.heap.size w W) => h.known hb)
    have HSM := Lib.hid (fun (W : World) (hb : Below w.heap.size w W) => fr_small h hb)
    rw [hsm] at HSM
    clear h hS hM ht
    go_enter Tryd.func5, Tryd.ntmps5; go_upto_region 1 with (fail); have HL := Lib.hid (show LI a n c ba m bc w (w.alloc (.cells #[.slice a n c, .slice ba m bc] 25)) from LI_start); generalize World.alloc w _ = V at *; obtain ⟨l0, l1, l2, l3⟩ := HL.out
    go_wp2_with (first | (go_at_call 10; refine (HSM.out _ l3).mono ?_; rintro e w2 ⟨rfl, hb2⟩; have HLx := Lib.hid (LI_step HL.out hb2); clear HL hb2; have HL := HLx; clear HLx; (try clear l0 l1 l2 l3); obtain ⟨l0, l1, l2, l3⟩ := HL.out) | (go_at_call 11; refine (HKN.out _ l3).mono ?_; rintro e wb ⟨rfl, hbb⟩; have HLx := Lib.hid (LI_step HL.out hbb); clear HL hbb; have HL := HLx; clear HLx; (try clear l0 l1 l2 l3); obtain ⟨l0, l1, l2, l3⟩ := HL.out))
    go_ret
    exact ⟨rfl, l3⟩
  · by_cases hC : checkN n ss m bs = 0
    · by_cases hA : allF n ss m bs = []
      · exact Fr_none a n c ba m bc ss bs wide w h hsm hC hA
      · exact Fr_ok a n c ba m bc ss bs wide w h hsm hC hA
    · exact Fr_err a n c ba m bc ss bs wide w h hsm hC
end Go.Proofs.YtlfegmjdheddjaaDoor
