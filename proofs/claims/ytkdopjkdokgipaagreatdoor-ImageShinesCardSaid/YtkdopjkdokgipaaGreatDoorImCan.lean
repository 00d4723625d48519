/- The walk of (*search).can. -/
import Derived.Test.YtkdopjkdokgipaaGreatDoorImLook
namespace Go.Proofs.YtkdopjkdokgipaaGreatDoor
open Go.RowKit
set_option linter.unusedVariables false
set_option linter.unusedSimpArgs false
theorem canB_no {n : Nat} {ss : Nat → SV} {m : Nat} {bs : Nat → BM} {r i : Nat} {sums : Nat → Int} (hi : i < m) (h : (bs i).hi < sums i + rest n (bs i) (sLo ss) r ∨ sums i + rest n (bs i) (sHi ss) r < (bs i).lo) : canB n ss m bs r sums = false :=
  allUpto_false hi (by
    rcases h with h | h
    · rw [decide_eq_true h]; rfl
    · rw [decide_eq_true (p := sums i + rest n (bs i) (sHi ss) r < (bs i).lo) h, Bool.or_true]; rfl)
theorem canB_yes {n : Nat} {ss : Nat → SV} {m : Nat} {bs : Nat → BM} {r : Nat} {sums : Nat → Int} (h : ∀ i, i < m → ¬ (bs i).hi < sums i + rest n (bs i) (sLo ss) r ∧ ¬ sums i + rest n (bs i) (sHi ss) r < (bs i).lo) : canB n ss m bs r sums = true :=
  allUpto_true (fun i hi => by rw [decide_eq_false (h i hi).1, decide_eq_false (h i hi).2]; rfl)
set_option maxRecDepth 100000 in
set_option maxHeartbeats 2000000 in
theorem can_any (R : Nat → Prop) (n : Nat) (ss : Nat → SV) (m : Nat) (bs : Nat → BM) (sp : Nat) (sa : Option Addr) (mc : Nat) (sums : Nat → Int) (k r : Nat) (hkr : k + r = n) (w : World) (hS : SearchAt R n ss m bs sp w) (hA : Ints w.heap.size w sa m sums) (hB : ∀ i, i < m → 0 ≤ sums i ∧ sums i ≤ 1000000000000) (hSh : Shape n ss m bs) :
    Calls Tryz.prog 90 #[.pointer (some ⟨sp, 0, none⟩), .slice sa m mc, .int .i64 (k : Int)] w fun e w' => e = .returned (.bool (canB n ss m bs r sums)) ∧ Below w.heap.size w w' := by
  have hn := hSh.n40
  have hm := hSh.m20
  have HA := Lib.hid hA
  have HB := Lib.hid hB
  have HSh := Lib.hid hSh
  have HF1 := Lib.hid (fun i hi h => @canB_no n ss m bs r i sums hi h)
  have HF2 := Lib.hid (@canB_yes n ss m bs r sums)
  generalize canB n ss m bs r sums = RES at *
  obtain ⟨ca, cc, ba, bc, wa, wc, ra, rc, h0, h1, h2, h3, h4, h5, h6, h7⟩ := hS.img
  have hsp := hS.lt
  have H5 := Lib.hid h5
  have H7 := Lib.hid h7
  clear h4 h5 h6 h7 hS hA hB hSh h0 h2
  have hk1 : (k : Int) < (n : Int) + 1 := by omega
  have hkn : k < n + 1 := by omega
  have HKR := Lib.hid hkr
  clear hkr
  go_enter Tryz.func90, Tryz.ntmps90
  go_wp2
  go_loopw [15] (fun t wr => ∃ i : Nat, i ≤ m ∧ t = .int .i64 (i : Int) ∧ Hid (∀ j, j < i → ¬ (bs j).hi < sums j + rest n (bs j) (sLo ss) r ∧ ¬ sums j + rest n (bs j) (sHi ss) r < (bs j).lo) ∧ Below w.heap.size w wr) (fun t _ => m - (intOf t).toNat)
  case atStart => exact ⟨0, Nat.zero_le _, rfl, Lib.hid (fun j h => by omega), Below.refl _ _⟩
  case round =>
    obtain ⟨i, hi, rfl, HALL, hb⟩ := hrel
    have hz := hb.size
    by_cases hlt : i < m
    · have hlt' : (i : Int) < (m : Int) := by omega
      obtain ⟨bb, boff, rfl, _, hbz, hat⟩ := H5.out.get hlt
      obtain ⟨c0, c1, c2, c3⟩ := hat.below hb hbz
      obtain ⟨rb, roff, ia, ic, rfl, _, hrz, d0, hin⟩ := H7.out.get hlt
      obtain ⟨ib, ioff, rfl, _, hiz, e0, e1⟩ := hin.get hkn
      obtain ⟨sb, soff, rfl, hsz, s0⟩ := HA.out.get hlt
      have d0' := ((bcell hb).1 _ _ hrz).trans d0
      have e0' := ((bcell hb).1 _ _ hiz).trans e0
      have e1' := ((bcell hb).1 _ _ hiz).trans e1
      have s0' := ((bcell hb).1 _ _ hsz).trans s0
      have h1' := ((bcell hb).1 _ _ hsp).trans h1
      have h3' := ((bcell hb).1 _ _ hsp).trans h3
      have hrs : restS n ss (bs i) k = ⟨rest n (bs i) (sLo ss) r, rest n (bs i) (sHi ss) r⟩ := by
        unfold restS; rw [show n - k = r by have := HKR.out; omega]
      rw [hrs] at e0' e1'
      dsimp only at e0' e1'
      have hsw : ∀ c, 0 ≤ (bs i).w c ∧ (bs i).w c ≤ 1000000 := fun c => HSh.out.w hlt c
      have hbl := rest_bound (n := n) (b := bs i) (f := sLo ss) hsw (fun c hc => by obtain ⟨h1, h2, h3⟩ := HSh.out.span c hc; unfold sLo; omega) r (by have := HKR.out; omega)
      have hbh := rest_bound (n := n) (b := bs i) (f := sHi ss) hsw (fun c hc => by obtain ⟨h1, h2, h3⟩ := HSh.out.span c hc; unfold sHi; omega) r (by have := HKR.out; omega)
      have b1 : rest n (bs i) (sLo ss) r ≤ 40000000000 := by have := HKR.out; omega
      have b2 : rest n (bs i) (sHi ss) r ≤ 40000000000 := by have := HKR.out; omega
      have b3 := hbl.1
      have b4 := hbh.1
      obtain ⟨b5, b6⟩ := HB.out i hlt
      have HN := Lib.hid (HF1.out i hlt)
      have HT : ∀ (x : ¬ (bs i).hi < sums i + rest n (bs i) (sLo ss) r) (y : ¬ sums i + rest n (bs i) (sHi ss) r < (bs i).lo), ∀ j, j < i + 1 → ¬ (bs j).hi < sums j + rest n (bs j) (sLo ss) r ∧ ¬ sums j + rest n (bs j) (sHi ss) r < (bs j).lo := fun x y j hj => by
        by_cases e : j = i
        · subst e; exact ⟨x, y⟩
        · exact HALL.out j (by omega)
      have HT2 := Lib.hid HT
      have q1 : bb < wr.heap.size := by omega
      have q2 : rb < wr.heap.size := by omega
      have q3 : ib < wr.heap.size := by omega
      have q4 : sb < wr.heap.size := by omega
      have q5 : sp < wr.heap.size := by omega
      clear hrs hsw hbl hbh hat hin d0 e0 e1 s0 HT
      generalize rest n (bs i) (sLo ss) r = RL at *
      generalize rest n (bs i) (sHi ss) r = RH at *
      generalize sums i = S at *
      generalize (bs i).lo = L at *
      generalize (bs i).hi = U at *
      generalize (bs i).ca = xca at *
      generalize (bs i).cn = xcn at *
      generalize (bs i).cc = xcc at *
      generalize (bs i).wa = xwa at *
      generalize (bs i).wn = xwn at *
      generalize (bs i).wc = xwc at *
      have u1 : IntKind.i64.wrap (S + RL) = S + RL := IntWalk.i64_in _ (by omega)
      have u2 : IntKind.i64.wrap (S + RH) = S + RH := IntWalk.i64_in _ (by omega)
      by_cases t1 : U < S + RL
      · have t1' : decide (U < S + RL) = true := decide_eq_true t1
        have HF := Lib.hid (HN.out (.inl t1))
        clear t1
        go_upto_region 4 with (fail)
        (refine wp_region_calm (wr.heap.size + 1) (by kernel_rfl) (by kernel_rfl) ?_; (repeat (first | go_big_quiet_step (fail) | quiet_step (fail))); refine wpQuiet_nil ?_; intro _ hw'; obtain ⟨xq, hw''⟩ := hw'; subst hw'')
        have hb3 := hb.trans ((((Below.refl _ _).alloc (Nat.le_refl _) _).trans (xq.below.mono (by omega))).mono hz)
        go_wp2
        go_ret
        exact ⟨ret_bool HF.out.symm, hb3⟩
      · have t1' : decide (U < S + RL) = false := decide_eq_false t1
        by_cases t2 : S + RH < L
        · have t2' : decide (S + RH < L) = true := decide_eq_true t2
          have HF := Lib.hid (HN.out (.inr t2))
          clear t1 t2
          go_upto_region 4 with (fail)
          (refine wp_region_calm (wr.heap.size + 1) (by kernel_rfl) (by kernel_rfl) ?_; (repeat (first | go_big_quiet_step (fail) | quiet_step (fail))); refine wpQuiet_nil ?_; intro _ hw'; obtain ⟨xq, hw''⟩ := hw'; subst hw'')
          have hb3 := hb.trans ((((Below.refl _ _).alloc (Nat.le_refl _) _).trans (xq.below.mono (by omega))).mono hz)
          go_wp2
          go_ret
          exact ⟨ret_bool HF.out.symm, hb3⟩
        · have t2' : decide (S + RH < L) = false := decide_eq_false t2
          have HT3 := Lib.hid (HT2.out t1 t2)
          clear t1 t2
          go_upto_region 4 with (fail)
          (refine wp_region_calm (wr.heap.size + 1) (by kernel_rfl) (by kernel_rfl) ?_; (repeat (first | go_big_quiet_step (fail) | quiet_step (fail))); refine wpQuiet_nil ?_; intro _ hw'; obtain ⟨xq, hw''⟩ := hw'; subst hw'')
          have hb3 := hb.trans ((((Below.refl _ _).alloc (Nat.le_refl _) _).trans (xq.below.mono (by omega))).mono hz)
          go_wp2
          go_roundw
          case rel => exact ⟨i + 1, by omega, by go_num, HT3, hb3⟩
          case measure => simp [intOf]; omega
    · obtain rfl : i = m := by omega
      have hlt' : ¬ (i : Int) < (i : Int) := by omega
      have HF := Lib.hid (HF2.out (fun j hj => by have := HALL.out j hj; omega))
      go_wp2
      go_ret
      exact ⟨ret_bool HF.out.symm, hb⟩
end Go.Proofs.YtkdopjkdokgipaaGreatDoor
