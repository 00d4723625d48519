/- The walk of the function that calls itself: cells left. -/
import Derived.Test.YtkdopjkdokgipaaGreatDoorGdA
import Derived.StillTailTactics
import Derived.Deep.CutBlock
namespace Go.Proofs.YtkdopjkdokgipaaGreatDoor
open Go.RowKit Go.Shelf
set_option linter.unusedVariables false
set_option linter.unusedSimpArgs false
/-- what is left of a sequence behind its first statements -/
def dropSeq : Nat → Code → Code
  | 0, c => c
  | n + 1, .seq _ b => dropSeq n b
  | _ + 1, c => c
noncomputable def moreFrom (k : Nat) : Code := dropSeq k (Tryz.f89.body.getD .skip)
/-- what a call with r cells left comes to, wherever it begins -/
def MoreOk (R : Nat → Prop) (n : Nat) (ss : Nat → SV) (m : Nat) (bs : Nat → BM) (sp l : Nat) (q : ItP) (J Jx : List FX → (Nat → Prop) → World → Prop) (r : Nat) : Prop :=
  ∀ (N : Nat) (p : List Int) (sa : Option Addr) (xs : List FX) (O : Nat → Prop) (W : World), p.length + r = n → InSpans n ss p → EnvF R n ss m bs sp l q p O W → IntsR (Off O q.fb) W sa m (sumsOf bs p) → J xs O W → Pos xs p →
    CallsIn Fence.wide N Tryz.prog 89 #[.int .i64 (p.length : Int), .slice sa m m, .pointer (some ⟨q.sB, 0, none⟩), .pointer (some ⟨q.yB, 0, none⟩), .pointer (some ⟨q.fB, 0, none⟩), .pointer (some ⟨q.mB, 0, none⟩)] W (MoreRes R n ss m bs q.fb J Jx r p xs O W)
set_option maxRecDepth 100000 in
set_option maxHeartbeats 2000000 in
theorem node_rest (R : Nat → Prop) (n : Nat) (ss : Nat → SV) (m : Nat) (bs : Nat → BM) (sp l : Nat) (q : ItP) (hSh : Shape n ss m bs) (J Jx : List FX → (Nat → Prop) → World → Prop) (hJ : Abide J) (r : Nat) (ih : MoreOk R n ss m bs sp l q J Jx r)
    (p : List Int) (k : Nat) (hk : k = p.length) (hk1 : k + (r + 1) ≤ n) (hk2 : n ≤ k + (r + 1)) (hin : InSpans n ss p) (hc : canB n ss m bs (r + 1) (sumsOf bs p) = true) (sa : Option Addr) (xs : List FX) (O : Nat → Prop) (W : World) (hE : EnvF R n ss m bs sp l q p O W) (hs : IntsR (Off O q.fb) W sa m (sumsOf bs p)) (hj : J xs O W) (hpos : Pos xs p)
    (RES : Ending → World → Prop) (hr1 : ∀ ys O1 W1, ys.map FX.f = visF n ss m bs (r + 1) p → J (xs ++ ys) O1 W1 → Evo R n q.fb p O W O1 W1 → RES (.returned (.bool true)) W1) (hr2 : ∀ ys O1 W1, (∃ k, ys.map FX.f = (visF n ss m bs (r + 1) p).take k) → Jx (xs ++ ys) O1 W1 → RES (.returned (.bool false)) W1) (u6 u7 u8 u9 u10 u11 u12 u13 u14 u15 u16 u17 u18 u19 u20 u21 u22 u23 u24 u25 u26 u27 u28 u29 u30 u31 u32 u33 u34 u35 u36 u37 u38 u39 u40 u41 u42 u43 u44 u45 u46 u47 u48 u49 u50 u51 u52 u53 u54 u55 u56 u57 u58 u59 u60 u61 u62 u63 u64 u65 u66 u67 u68 u69 u70 u71 u72 u73 u74 u75 u76 u77 u78 u79 u80 u81 u82 u83 u84 u85 u86 u87 u88 u89 : Value) :
    (moreFrom 2).wp Tryz.prog (bodyPost Tryz.prog Tryz.f89 RES) ⟨#[.int .i64 (k : Int), .slice sa m m, .pointer (some ⟨q.sB, 0, none⟩), .pointer (some ⟨q.yB, 0, none⟩), .pointer (some ⟨q.fB, 0, none⟩), .pointer (some ⟨q.mB, 0, none⟩), u6, u7, u8, u9, u10, u11, u12, u13, u14, u15, u16, u17, u18, u19, u20, u21, u22, u23, u24, u25, u26, u27, u28, u29, u30, u31, u32, u33, u34, u35, u36, u37, u38, u39, u40, u41, u42, u43, u44, u45, u46, u47, u48, u49, u50, u51, u52, u53, u54, u55, u56, u57, u58, u59, u60, u61, u62, u63, u64, u65, u66, u67, u68, u69, u70, u71, u72, u73, u74, u75, u76, u77, u78, u79, u80, u81, u82, u83, u84, u85, u86, u87, u88, u89], []⟩ W := by
  have hn := hSh.n40
  have hm := hSh.m20
  obtain ⟨sl1, sl2, sl3⟩ := hSh.span k (by omega)
  obtain ⟨ca, cc, ba, bc, wa, wc, ra, rc, h0, _, h2, _, h4, _, h6, _⟩ := hE.search.img
  have hsp := hE.search.lt
  have s0 := hE.sbox
  obtain ⟨b, off, rfl, hbR, hbz, c0, c1⟩ := h4.get (i := k) (by omega)
  have hkn : ((k : Int) == (n : Int)) = false := by rw [beq_eq_false_iff_ne]; omega
  have hkl : (k : Int) < (n : Int) := by omega
  have hmk := make_ints m (by omega)
  have HE := Lib.hid hE
  have HS := Lib.hid hs
  have HK := Lib.hid hk
  have HR1 := Lib.hid hr1
  have HR2 := Lib.hid hr2
  have HIN := Lib.hid hin
  have HC := Lib.hid hc
  have HPOS := Lib.hid hpos
  have HN0 := Lib.hid (show Node R n ss m bs q J r p xs O W W.heap.size 0 [] (ownAlso O W (W.alloc (.cells (madeCells #[.int .i64 0] m) 3))) (W.alloc (.cells (madeCells #[.int .i64 0] m) 3)) from Node.start hE hJ hj ((Below.refl _ _).alloc (Nat.le_refl _) _) (Nat.le_refl _) (IR.made W 3 m))
  have HB0 := Lib.hid (show Below W.heap.size W (W.alloc (.cells (madeCells #[.int .i64 0] m) 3)) from (Below.refl _ _).alloc (Nat.le_refl _) _)
  have HSR := Lib.hid hE.search
  have hsB := hE.rlt _ hE.sown
  clear hE hs hk hr1 hr2 hin hc hj hpos
  conv => arg 2; whnf
  go_upto_region 7 with (fail)
  generalize World.alloc W _ = V at *
  generalize hnb : W.heap.size = nb at *
  have HNB := Lib.hid hnb
  clear hnb hmk
  go_loopw [10] (fun s10 wr => ∃ (t : Nat) (ys : List FX) (O1 : Nat → Prop), t ≤ densN (ss k) ∧ s10 = .int .i64 ((ss k).lo + (t : Int)) ∧ Hid (Node R n ss m bs q J r p xs O W nb t ys O1 wr)) (fun s10 _ => ((ss k).hi + 1 - intOf s10).toNat)
  case atStart => exact ⟨0, [], _, Nat.zero_le _, by simp, HN0⟩
  case round =>
    clear HN0 HB0
    obtain ⟨t, ys, O1, ht, rfl, HN⟩ := hrel
    have hdn : (densN (ss k) : Int) = (ss k).hi - (ss k).lo + 1 := by unfold densN; omega
    have hsR := HSR.out.own
    have s1 := (Rests.cell (o := 0) HN.out.evo.rely HE.out.sown).trans s0
    have g1 := (Rests.cell (o := 0) HN.out.evo.rely hsR).trans h0
    have d1 := (Rests.cell (o := off + k * 2 + 1) HN.out.evo.rely hbR).trans c1
    by_cases hlt : t < densN (ss k)
    · have hlt' : (ss k).lo + (t : Int) ≤ (ss k).hi := by omega
      have f1 := (HE.out.evo HN.out.evo).fbox
      obtain ⟨fr, hf1, _⟩ := HN.out.evo.row
      have f2 := hf1.cell (j := k) (by omega)
      have f3 := hf1.frozen k
      have HI0 := Lib.hid (show Inn R n ss m bs sp l q J p xs O W nb ((ss k).lo + (t : Int)) 0 ys O1 (wr.setCell ⟨q.fb, k, none⟩ (.int .i64 ((ss k).lo + (t : Int)))) from by
        have := Node.put HE.out hJ (by rw [← HK.out]; omega) (by rw [HNB.out]; exact Nat.le_refl _) HN.out ((ss k).lo + (t : Int))
        rw [← HK.out] at this
        exact this)
      have HV := Lib.hid HN.out.vis
      clear HN hf1
      generalize hd : (ss k).lo + (t : Int) = d at *
      have HD := Lib.hid hd
      have hd1 : 0 ≤ d ∧ d ≤ 1000 := by omega
      clear hd
      go_upto_block 2 with (fail)
      have h6' := h6
      clear f1 f2 f3 d1 g1 s1
      generalize World.setCell wr _ _ = V2 at *
      go_cut [] from 41 to 89 (fun wx => Hid (Inn R n ss m bs sp l q J p xs O W nb d m ys O1 wx))
      · go_wp2
        go_loopw [60] (fun s60 wx => ∃ i : Nat, i ≤ m ∧ s60 = .int .i64 (i : Int) ∧ Hid (Inn R n ss m bs sp l q J p xs O W nb d i ys O1 wx)) (fun s60 _ => m - (intOf s60).toNat)
        case atStart => exact ⟨0, Nat.zero_le _, rfl, HI0⟩
        case round =>
          clear HI0
          obtain ⟨i, hi, rfl, HI⟩ := hrel
          by_cases hlt2 : i < m
          · have hlt2' : (i : Int) < (m : Int) := by omega
            have s1 := (Rests.cell (o := 0) HI.out.evo.rely HE.out.sown).trans s0
            have g1 := (Rests.cell (o := 2) HI.out.evo.rely hsR).trans h2
            obtain ⟨wb, woff, ra, rc, rfl, hwR, hwz, e0, e1⟩ := h6.get hlt2
            have e2 := (Rests.cell (o := woff + i) HI.out.evo.rely hwR).trans e0
            obtain ⟨rb, roff, rfl, hrR, hrz, e3⟩ := e1.get (i := k) (by omega)
            have e4 := (Rests.cell (o := roff + k) HI.out.evo.rely hrR).trans e3
            obtain ⟨ab, aoff, rfl, haO, haz, e5⟩ := (HS.out.off HI.out.evo).get hlt2
            obtain ⟨gr, hg1, _⟩ := HI.out.nrow
            have n0 := hg1.cell hlt2
            have n1 := hg1.frozen i
            have b1 := sums_bound hSh (p := p) (by rw [← HK.out]; omega) HIN.out hlt2
            have b2 := hSh.w hlt2 k
            have HVV := Lib.hid (show sumsOf bs p i + (bs i).w k * d = sumsOf bs (p ++ [d]) i from by rw [sums_step, HK.out])
            have hP : 0 ≤ (bs i).w k * d ∧ (bs i).w k * d ≤ 1000000 * 1000 := ⟨Int.mul_nonneg b2.1 hd1.1, Int.mul_le_mul b2.2 hd1.2 hd1.1 (by omega)⟩
            have hkp : (p.length : Int) ≤ 40 := by rw [← HK.out]; omega
            generalize sumsOf bs p i = sm at *
            generalize hPP : (bs i).w k * d = P at *
            clear hg1 e0 e1 e3
            go_upto_region 13 with (fail)
            go_still_tail 20, (by kernel_rfl)
            change wpList _ _ _ _ _ wr.drew
            go_wp2
            go_roundw
            case rel => exact ⟨i + 1, by omega, by go_num, Lib.hid ((HI.out.put HE.out hJ (by rw [HNB.out]; exact Nat.le_refl _) hlt2 HVV.out).drew hJ)⟩
            case measure => simp [intOf]; omega
          · obtain rfl : i = m := by omega
            have hlt2' : ¬ (i : Int) < (i : Int) := by omega
            go_wp2
            go_meet
            exact HI
      · have HI := Lib.hid hcut.out
        have s5 := HI.out.env.mbox
        have hDD : d = (ss p.length).lo + (t : Int) := by rw [← HK.out]; exact HD.out.symm
        have HIH := Lib.hid (show Calls Tryz.prog 89 #[.int .i64 ((k : Int) + 1), .slice (some ⟨nb, 0, none⟩) m m, .pointer (some ⟨q.sB, 0, none⟩), .pointer (some ⟨q.yB, 0, none⟩), .pointer (some ⟨q.fB, 0, none⟩), .pointer (some ⟨q.mB, 0, none⟩)] wc (MoreRes R n ss m bs q.fb J Jx r (p ++ [d]) (xs ++ ys) O1 wc) from by
          have h1 := callsIn_wide.1 (ih 0 (p ++ [d]) (some ⟨nb, 0, none⟩) (xs ++ ys) O1 wc (by rw [List.length_append, List.length_singleton, ← HK.out]; omega) (inSpans_snoc HIN.out (by have := HD.out; rw [← HK.out]; omega) (by have := HD.out; rw [← HK.out]; omega)) HI.out.env (HI.out.sums HE.out (by rw [HNB.out]; exact Nat.le_refl _)) HI.out.j (Pos.next hSh HPOS.out HV.out hDD (by rw [← HK.out]; omega)))
          rw [show (((p ++ [d]).length : Nat) : Int) = (k : Int) + 1 by rw [List.length_append, List.length_singleton, ← HK.out]; push_cast; rfl] at h1
          exact h1)
        clear hcut
        go_wp2_with (fail)
        refine HIH.out.mono ?_
        rintro e W3 (⟨rfl, zs, O2, hz, hj3, he⟩ | ⟨rfl, zs, O2, hz, hj3⟩)
        · have HNX := Lib.hid (show Node R n ss m bs q J r p xs O W nb (t + 1) (ys ++ zs) O2 W3 from HI.out.back HE.out (by rw [HNB.out]; exact Nat.le_refl _) HV.out (by rw [← HK.out]; exact hlt) hDD hz hj3 he)
          clear hz hj3 he HI HIH s5
          dsimp only
          go_wp2
          go_roundw
          case rel => exact ⟨t + 1, ys ++ zs, O2, by omega, congrArg (Value.int .i64) (by have := HD.out; push_cast; omega), HNX⟩
          case measure => simp [intOf]; omega
        · have HRR := Lib.hid (HR2.out (ys ++ zs) O2 W3 (by
            obtain ⟨k2, hz⟩ := hz
            exact Inn.broken HC.out (by rw [← HK.out]; omega) HV.out (by rw [← HK.out]; exact hlt) hDD hz) (by rw [← List.append_assoc]; exact hj3))
          clear hz hj3 HI HIH s5
          dsimp only
          go_wp2
          exact HRR.out
    · obtain rfl : t = densN (ss k) := by omega
      have hlt' : ¬ (ss k).lo + ((densN (ss k) : Nat) : Int) ≤ (ss k).hi := by omega
      have HRR := Lib.hid (HR1.out ys O1 wr (HN.out.all HC.out (by rw [← HK.out]; omega) (by rw [HK.out]; exact Nat.le_refl _)) HN.out.j HN.out.evo)
      go_wp2
      exact HRR.out
set_option maxRecDepth 100000 in
set_option maxHeartbeats 2000000 in
theorem more_node (R : Nat → Prop) (n : Nat) (ss : Nat → SV) (m : Nat) (bs : Nat → BM) (sp l : Nat) (q : ItP) (hSh : Shape n ss m bs) (J Jx : List FX → (Nat → Prop) → World → Prop) (hJ : Abide J) (r : Nat) (ih : MoreOk R n ss m bs sp l q J Jx r) : MoreOk R n ss m bs sp l q J Jx (r + 1) := by
  intro N p sa xs O W hp hin hE hs hj hpos
  refine callsIn_wide.2 ?_
  have hn := hSh.n40
  have hsp := hE.search.lt
  have s0 := hE.sbox
  have HC := Lib.hid (can_any R n ss m bs sp sa m (sumsOf bs p) p.length (r + 1) hp W hE.search (hs.weak (fun _ h => h.1)).ints (fun i hi => by have := sums_bound hSh (by omega) hin hi; omega) hSh)
  obtain ⟨k, hk⟩ : ∃ k, k = p.length := ⟨_, rfl⟩
  rw [← hk] at HC ⊢
  cases hc : canB n ss m bs (r + 1) (sumsOf bs p)
  · have HR := Lib.hid (fun (W' : World) (hb : Below W.heap.size W W') => show MoreRes R n ss m bs q.fb J Jx (r + 1) p xs O W (.returned (.bool true)) W' from .inl ⟨rfl, [], _, by rw [vis_cut hc]; rfl, by rw [List.append_nil]; exact hJ _ _ _ _ _ hj (Turn.of_below hb), hE.step hb⟩)
    generalize MoreRes R n ss m bs q.fb J Jx (r + 1) p xs O W = RES at *
    clear hE hs hj hJ hk hp
    go_enter Tryz.func89, Tryz.ntmps89
    go_wp2_with (go_at_call 90; with_reducible refine HC.out.mono ?_; rintro e w1 ⟨rfl, hb⟩; rw [hc])
    exact HR.out _ hb
  · have HA := Lib.hid (fun (w1 : World) (hb : Below W.heap.size W w1) => And.intro (hE.evo (hE.step hb)) (And.intro (hs.off (hE.step hb)) (And.intro (hJ _ _ _ _ _ hj (Turn.of_below hb)) (hE.step hb))))
    have HK := Lib.hid (And.intro hk hp)
    clear hE hs hj hk hp
    go_enter Tryz.func89, Tryz.ntmps89
    go_upto_if 16 with (go_at_call 90; with_reducible refine HC.out.mono ?_; rintro e w1 ⟨rfl, hb⟩; rw [hc]; have HA1 := Lib.hid (HA.out _ hb))
    go_cut [] from 12 (fun wx => wx = w1)
    · go_wp2
      go_meet
      rfl
    · rename_i hKK
      subst hcut
      refine hKK _ _ ?_
      obtain ⟨en, hs1, hj1, ev⟩ := HA1.out
      obtain ⟨hk, hp⟩ := HK.out
      exact node_rest R n ss m bs sp l q hSh J Jx hJ r ih p k hk (by omega) (by omega) hin hc sa xs _ _ en hs1 hj1 hpos (MoreRes R n ss m bs q.fb J Jx (r + 1) p xs O W) (fun ys O1 W1 h1 h2 h3 => .inl ⟨rfl, ys, O1, h1, h2, ev.trans h3⟩) (fun ys O1 W1 h1 h2 => .inr ⟨rfl, ys, O1, h1, h2⟩) _ _ _ _ _ _ _ _ _ _ _ _ _ _ _ _ _ _ _ _ _ _ _ _ _ _ _ _ _ _ _ _ _ _ _ _ _ _ _ _ _ _ _ _ _ _ _ _ _ _ _ _ _ _ _ _ _ _ _ _ _ _ _ _ _ _ _ _ _ _ _ _ _ _ _ _ _ _ _ _ _ _ _ _
/-- the function that calls itself, whatever cells are left -/
theorem more_all (R : Nat → Prop) (n : Nat) (ss : Nat → SV) (m : Nat) (bs : Nat → BM) (sp l : Nat) (q : ItP) (hSh : Shape n ss m bs) (J Jx : List FX → (Nat → Prop) → World → Prop) (hJ : Abide J) (hY : Owes R n ss m bs l J Jx) : ∀ r, MoreOk R n ss m bs sp l q J Jx r
  | 0 => fun N p sa xs O W hp hin hE hs hj hpos => by
    have hp' : p.length = n := by omega
    have h := more_leaf R n ss m bs sp l q hSh J Jx hJ hY N p hp' hin sa xs O W hE (hs.weak (fun _ h => h.1)) hj hpos
    rw [← hp'] at h ⊢
    exact h
  | r + 1 => more_node R n ss m bs sp l q hSh J Jx hJ r (more_all R n ss m bs sp l q hSh J Jx hJ hY r)
end Go.Proofs.YtkdopjkdokgipaaGreatDoor
