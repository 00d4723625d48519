/- Texts put together: ImNode, ImFld, ImLoop. -/
import Derived.Test.YtgmpelhphnmknaaGreatQah
import Derived.StillTailTactics
import Derived.Deep.CutBlock
set_option maxRecDepth 100000
set_option maxHeartbeats 8000000
set_option linter.unusedVariables false
set_option linter.unusedSimpArgs false
namespace Go.Proofs.YtgmpelhphnmknaaGreat
open Go.RowKit Go.Shelf
def dropSeq : Nat → Code → Code
 | 0, c => c
 | n + 1, .seq _ b => dropSeq n b
 | _ + 1, c => c
noncomputable def moreFrom (k : Nat) : Code := dropSeq k (Tryz.f99.body.getD .skip)
def MoreOk (R : Nat → Prop) (n : Nat) (ss : Nat → SV) (m : Nat) (bs : Nat → BM) (sp l : Nat) (q : ItP) (J Jx : List FX → (Nat → Prop) → World → Prop) (r : Nat) : Prop :=
 ∀ (N : Nat) (p : List Int) (sa : Option Addr) (xs : List FX) (O : Nat → Prop) (W : World), p.length + r = n → InSpans n ss p → EnvF R n ss m bs sp l q p O W → IntsR (Off O q.fb) W sa m (sumsOf bs p) → J xs O W → Pos xs p →
  CallsIn Fence.wide N Tryz.prog 99 #[.int .i64 (p.length : Int), .slice sa m m, .pointer (some ⟨q.sB, 0, none⟩), .pointer (some ⟨q.yB, 0, none⟩), .pointer (some ⟨q.fB, 0, none⟩), .pointer (some ⟨q.mB, 0, none⟩)] W (MoreRes R n ss m bs q.fb J Jx r p xs O W)
theorem node_rest (R : Nat → Prop) (n : Nat) (ss : Nat → SV) (m : Nat) (bs : Nat → BM) (sp l : Nat) (q : ItP) (hSh : Shape n ss m bs) (J Jx : List FX → (Nat → Prop) → World → Prop) (hJ : Abide J) (r : Nat) (ih : MoreOk R n ss m bs sp l q J Jx r)
  (p : List Int) (k : Nat) (hk : k = p.length) (hk1 : k + (r + 1) ≤ n) (hk2 : n ≤ k + (r + 1)) (hin : InSpans n ss p) (hc : canB n ss m bs (r + 1) (sumsOf bs p) = true) (sa : Option Addr) (xs : List FX) (O : Nat → Prop) (W : World) (hE : EnvF R n ss m bs sp l q p O W) (hs : IntsR (Off O q.fb) W sa m (sumsOf bs p)) (hj : J xs O W) (hpos : Pos xs p)
  (RES : Ending → World → Prop) (hr1 : ∀ ys O1 W1, ys.map FX.f = visF n ss m bs (r + 1) p → J (xs ++ ys) O1 W1 → Evo R n q.fb p O W O1 W1 → RES (.returned (.bool true)) W1) (hr2 : ∀ ys O1 W1, (∃ k, ys.map FX.f = (visF n ss m bs (r + 1) p).take k) → Jx (xs ++ ys) O1 W1 → RES (.returned (.bool false)) W1) (u6 u7 u8 u9 u10 u11 u12 u13 u14 u15 u16 u17 u18 u19 u20 u21 u22 u23 u24 u25 u26 u27 u28 u29 u30 u31 u32 u33 u34 u35 u36 u37 u38 u39 u40 u41 u42 u43 u44 u45 u46 u47 u48 u49 u50 u51 u52 u53 u54 u55 u56 u57 u58 u59 u60 u61 u62 u63 u64 u65 u66 u67 u68 u69 u70 u71 u72 u73 u74 u75 u76 u77 u78 u79 u80 u81 u82 u83 u84 u85 u86 u87 u88 u89 : Value) :
  (moreFrom 2).wp Tryz.prog (bodyPost Tryz.prog Tryz.f99 RES) ⟨#[.int .i64 (k : Int), .slice sa m m, .pointer (some ⟨q.sB, 0, none⟩), .pointer (some ⟨q.yB, 0, none⟩), .pointer (some ⟨q.fB, 0, none⟩), .pointer (some ⟨q.mB, 0, none⟩), u6, u7, u8, u9, u10, u11, u12, u13, u14, u15, u16, u17, u18, u19, u20, u21, u22, u23, u24, u25, u26, u27, u28, u29, u30, u31, u32, u33, u34, u35, u36, u37, u38, u39, u40, u41, u42, u43, u44, u45, u46, u47, u48, u49, u50, u51, u52, u53, u54, u55, u56, u57, u58, u59, u60, u61, u62, u63, u64, u65, u66, u67, u68, u69, u70, u71, u72, u73, u74, u75, u76, u77, u78, u79, u80, u81, u82, u83, u84, u85, u86, u87, u88, u89], []⟩ W := by
 have hn := hSh.n40
 have hm := hSh.m20
 obtain ⟨sl1, sl2, sl3⟩ := hSh.span k (by omega)
 obtain ⟨ca, cc, ba, bc, wa, wc, ra, rc, h0, _, h2, _, h4, _, h6, _⟩ := hE.search.img
 have hsp := hE.search.lt
 have s0 := hE.sbox
 obtain ⟨b, off, rfl, hbR, hbz, c0, c1⟩ := h4.get (i := k) (by omega)
 have hkn : ((k : Int) == (n : Int)) = false := by rw [beq_eq_false_iff_ne]; omega
 have hkl : (k : Int) < (n : Int) := by omega
 have hmk := make_ints m (by omega)
 have HE := Lib.hid hE
 have HS := Lib.hid hs
 have HK := Lib.hid hk
 have HR1 := Lib.hid hr1
 have HR2 := Lib.hid hr2
 have HIN := Lib.hid hin
 have HC := Lib.hid hc
 have HPOS := Lib.hid hpos
 have HN0 := Hd (show Node R n ss m bs q J r p xs O W W.heap.size 0 [] (ownAlso O W (W.alloc (.cells (madeCells #[.int .i64 0] m) 3))) (W.alloc (.cells (madeCells #[.int .i64 0] m) 3)) from Node.start hE hJ hj ((Below.refl _ _).alloc (Nat.le_refl _) _) (Nat.le_refl _) (IR.made W 3 m))
 have HB0 := Hd (show Below W.heap.size W (W.alloc (.cells (madeCells #[.int .i64 0] m) 3)) from (Below.refl _ _).alloc (Nat.le_refl _) _)
 have HSR := Lib.hid hE.search
 have hsB := hE.rlt _ hE.sown
 clear hE hs hk hr1 hr2 hin hc hj hpos
 conv => arg 2; whnf
 go_upto_region 7 with (fail)
 generalize World.alloc W _ = V at *
 generalize hnb : W.heap.size = nb at *
 have HNB := Lib.hid hnb
 clear hnb hmk
 go_loopw [10] (fun s10 wr => ∃ (t : Nat) (ys : List FX) (O1 : Nat → Prop), t ≤ densN (ss k) ∧ s10 = .int .i64 ((ss k).lo + (t : Int)) ∧ Hid (Node R n ss m bs q J r p xs O W nb t ys O1 wr)) (fun s10 _ => ((ss k).hi + 1 - intOf s10).toNat)
 case atStart => exact ⟨0, [], _, Nat.zero_le _, by simp, HN0⟩
 case round =>
  clear HN0 HB0
  obtain ⟨t, ys, O1, ht, rfl, HN⟩ := hrel
  have hdn : (densN (ss k) : Int) = (ss k).hi - (ss k).lo + 1 := by unfold densN; omega
  have hsR := HSR.out.own
  have s1 := (Rests.cell (o := 0) HN.out.evo.rely HE.out.sown).trans s0
  have g1 := (Rests.cell (o := 0) HN.out.evo.rely hsR).trans h0
  have d1 := (Rests.cell (o := off + k * 2 + 1) HN.out.evo.rely hbR).trans c1
  by_cases hlt : t < densN (ss k)
  ·have hlt' : (ss k).lo + (t : Int) ≤ (ss k).hi := by omega
   have f1 := (HE.out.evo HN.out.evo).fbox
   obtain ⟨fr, hf1, _⟩ := HN.out.evo.row
   have f2 := hf1.cell (j := k) (by omega)
   have f3 := hf1.frozen k
   have HI0 := Hd (show Inn R n ss m bs sp l q J p xs O W nb ((ss k).lo + (t : Int)) 0 ys O1 (wr.setCell ⟨q.fb, k, none⟩ (.int .i64 ((ss k).lo + (t : Int)))) from by
    have := Node.put HE.out hJ (by rw [← HK.out]; omega) (by rw [HNB.out]; exact Nat.le_refl _) HN.out ((ss k).lo + (t : Int))
    rw [← HK.out] at this
    exact this)
   have HV := Lib.hid HN.out.vis
   clear HN hf1
   generalize hd : (ss k).lo + (t : Int) = d at *
   have HD := Lib.hid hd
   have hd1 : 0 ≤ d ∧ d ≤ 1000 := by omega
   clear hd
   go_upto_block 2 with (fail)
   have h6' := h6
   clear f1 f2 f3 d1 g1 s1
   generalize World.setCell wr _ _ = V2 at *
   go_cut [] from 41 to 89 (fun wx => Hid (Inn R n ss m bs sp l q J p xs O W nb d m ys O1 wx))
   ·go_wp2
    go_loopw [60] (fun s60 wx => ∃ i : Nat, i ≤ m ∧ s60 = .int .i64 (i : Int) ∧ Hid (Inn R n ss m bs sp l q J p xs O W nb d i ys O1 wx)) (fun s60 _ => m - (intOf s60).toNat)
    case atStart => exact ⟨0, Nat.zero_le _, rfl, HI0⟩
    case round =>
     clear HI0
     obtain ⟨i, hi, rfl, HI⟩ := hrel
     by_cases hlt2 : i < m
     ·have hlt2' : (i : Int) < (m : Int) := by omega
      have s1 := (Rests.cell (o := 0) HI.out.evo.rely HE.out.sown).trans s0
      have g1 := (Rests.cell (o := 2) HI.out.evo.rely hsR).trans h2
      obtain ⟨wb, woff, ra, rc, rfl, hwR, hwz, e0, e1⟩ := h6.get hlt2
      have e2 := (Rests.cell (o := woff + i) HI.out.evo.rely hwR).trans e0
      obtain ⟨rb, roff, rfl, hrR, hrz, e3⟩ := e1.get (i := k) (by omega)
      have e4 := (Rests.cell (o := roff + k) HI.out.evo.rely hrR).trans e3
      obtain ⟨ab, aoff, rfl, haO, haz, e5⟩ := (HS.out.off HI.out.evo).get hlt2
      obtain ⟨gr, hg1, _⟩ := HI.out.nrow
      have n0 := hg1.cell hlt2
      have n1 := hg1.frozen i
      have b1 := sums_bound hSh (p := p) (by rw [← HK.out]; omega) HIN.out hlt2
      have b2 := hSh.w hlt2 k
      have HVV := Hd (show sumsOf bs p i + (bs i).w k * d = sumsOf bs (p ++ [d]) i from by rw [sums_step, HK.out])
      have hP : 0 ≤ (bs i).w k * d ∧ (bs i).w k * d ≤ 1000000 * 1000 := ⟨Int.mul_nonneg b2.1 hd1.1, Int.mul_le_mul b2.2 hd1.2 hd1.1 (by omega)⟩
      have hkp : (p.length : Int) ≤ 40 := by rw [← HK.out]; omega
      generalize sumsOf bs p i = sm at *
      generalize hPP : (bs i).w k * d = P at *
      clear hg1 e0 e1 e3
      go_upto_region 13 with (fail)
      go_still_tail 20, (by kernel_rfl)
      change wpList _ _ _ _ _ wr.drew
      go_wp2
      go_roundw
      case rel => exact ⟨i + 1, by omega, by go_num, Hd ((HI.out.put HE.out hJ (by rw [HNB.out]; exact Nat.le_refl _) hlt2 HVV.out).drew hJ)⟩
      case measure => simp [intOf]; omega
     ·obtain rfl : i = m := by omega
      have hlt2' : ¬ (i : Int) < (i : Int) := by omega
      go_wp2
      go_meet
      exact HI
   ·have HI := Lib.hid hcut.out
    have s5 := HI.out.env.mbox
    have hDD : d = (ss p.length).lo + (t : Int) := by rw [← HK.out]; exact HD.out.symm
    have HIH := Hd (show Calls Tryz.prog 99 #[.int .i64 ((k : Int) + 1), .slice (some ⟨nb, 0, none⟩) m m, .pointer (some ⟨q.sB, 0, none⟩), .pointer (some ⟨q.yB, 0, none⟩), .pointer (some ⟨q.fB, 0, none⟩), .pointer (some ⟨q.mB, 0, none⟩)] wc (MoreRes R n ss m bs q.fb J Jx r (p ++ [d]) (xs ++ ys) O1 wc) from by
     have h1 := callsIn_wide.1 (ih 0 (p ++ [d]) (some ⟨nb, 0, none⟩) (xs ++ ys) O1 wc (by rw [List.length_append, List.length_singleton, ← HK.out]; omega) (inSpans_snoc HIN.out (by have := HD.out; rw [← HK.out]; omega) (by have := HD.out; rw [← HK.out]; omega)) HI.out.env (HI.out.sums HE.out (by rw [HNB.out]; exact Nat.le_refl _)) HI.out.j (Pos.next hSh HPOS.out HV.out hDD (by rw [← HK.out]; omega)))
     rw [show (((p ++ [d]).length : Nat) : Int) = (k : Int) + 1 by rw [List.length_append, List.length_singleton, ← HK.out]; push_cast; rfl] at h1
     exact h1)
    clear hcut
    go_wp2_with (fail)
    refine HIH.out.mono ?_
    rintro e W3 (⟨rfl, zs, O2, hz, hj3, he⟩ | ⟨rfl, zs, O2, hz, hj3⟩)
    ·have HNX := Hd (show Node R n ss m bs q J r p xs O W nb (t + 1) (ys ++ zs) O2 W3 from HI.out.back HE.out (by rw [HNB.out]; exact Nat.le_refl _) HV.out (by rw [← HK.out]; exact hlt) hDD hz hj3 he)
     clear hz hj3 he HI HIH s5
     dsimp only
     go_wp2
     go_roundw
     case rel => exact ⟨t + 1, ys ++ zs, O2, by omega, congrArg (Value.int .i64) (by have := HD.out; push_cast; omega), HNX⟩
     case measure => simp [intOf]; omega
    ·have HRR := Hd (HR2.out (ys ++ zs) O2 W3 (by
      obtain ⟨k2, hz⟩ := hz
      exact Inn.broken HC.out (by rw [← HK.out]; omega) HV.out (by rw [← HK.out]; exact hlt) hDD hz) (by rw [← List.append_assoc]; exact hj3))
     clear hz hj3 HI HIH s5
     dsimp only
     go_wp2
     exact HRR.out
  ·obtain rfl : t = densN (ss k) := by omega
   have hlt' : ¬ (ss k).lo + ((densN (ss k) : Nat) : Int) ≤ (ss k).hi := by omega
   have HRR := Hd (HR1.out ys O1 wr (HN.out.all HC.out (by rw [← HK.out]; omega) (by rw [HK.out]; exact Nat.le_refl _)) HN.out.j HN.out.evo)
   go_wp2
   exact HRR.out
theorem more_node (R : Nat → Prop) (n : Nat) (ss : Nat → SV) (m : Nat) (bs : Nat → BM) (sp l : Nat) (q : ItP) (hSh : Shape n ss m bs) (J Jx : List FX → (Nat → Prop) → World → Prop) (hJ : Abide J) (r : Nat) (ih : MoreOk R n ss m bs sp l q J Jx r) : MoreOk R n ss m bs sp l q J Jx (r + 1) := by
 intro N p sa xs O W hp hin hE hs hj hpos
 refine callsIn_wide.2 ?_
 have hn := hSh.n40
 have hsp := hE.search.lt
 have s0 := hE.sbox
 have HC := Hd (can_any R n ss m bs sp sa m (sumsOf bs p) p.length (r + 1) hp W hE.search (hs.weak (fun _ h => h.1)).ints (fun i hi => by have := sums_bound hSh (by omega) hin hi; omega) hSh)
 obtain ⟨k, hk⟩ : ∃ k, k = p.length := ⟨_, rfl⟩
 rw [← hk] at HC ⊢
 cases hc : canB n ss m bs (r + 1) (sumsOf bs p)
 ·have HR := Hd (fun (W' : World) (hb : Below W.heap.size W W') => show MoreRes R n ss m bs q.fb J Jx (r + 1) p xs O W (.returned (.bool true)) W' from .inl ⟨rfl, [], _, by rw [vis_cut hc]; rfl, by rw [List.append_nil]; exact hJ _ _ _ _ _ hj (Turn.of_below hb), hE.step hb⟩)
  generalize MoreRes R n ss m bs q.fb J Jx (r + 1) p xs O W = RES at *
  clear hE hs hj hJ hk hp
  go_enter Tryz.func99, Tryz.ntmps99
  go_wp2_with (go_at_call 100; with_reducible refine HC.out.mono ?_; rintro e w1 ⟨rfl, hb⟩; rw [hc])
  exact HR.out _ hb
 ·have HA := Hd (fun (w1 : World) (hb : Below W.heap.size W w1) => And.intro (hE.evo (hE.step hb)) (And.intro (hs.off (hE.step hb)) (And.intro (hJ _ _ _ _ _ hj (Turn.of_below hb)) (hE.step hb))))
  have HK := Hd (And.intro hk hp)
  clear hE hs hj hk hp
  go_enter Tryz.func99, Tryz.ntmps99
  go_upto_if 16 with (go_at_call 100; with_reducible refine HC.out.mono ?_; rintro e w1 ⟨rfl, hb⟩; rw [hc]; have HA1 := Hd (HA.out _ hb))
  go_cut [] from 12 (fun wx => wx = w1)
  ·go_wp2
   go_meet
   rfl
  ·rename_i hKK
   subst hcut
   refine hKK _ _ ?_
   obtain ⟨en, hs1, hj1, ev⟩ := HA1.out
   obtain ⟨hk, hp⟩ := HK.out
   exact node_rest R n ss m bs sp l q hSh J Jx hJ r ih p k hk (by omega) (by omega) hin hc sa xs _ _ en hs1 hj1 hpos (MoreRes R n ss m bs q.fb J Jx (r + 1) p xs O W) (fun ys O1 W1 h1 h2 h3 => .inl ⟨rfl, ys, O1, h1, h2, ev.trans h3⟩) (fun ys O1 W1 h1 h2 => .inr ⟨rfl, ys, O1, h1, h2⟩) _ _ _ _ _ _ _ _ _ _ _ _ _ _ _ _ _ _ _ _ _ _ _ _ _ _ _ _ _ _ _ _ _ _ _ _ _ _ _ _ _ _ _ _ _ _ _ _ _ _ _ _ _ _ _ _ _ _ _ _ _ _ _ _ _ _ _ _ _ _ _ _ _ _ _ _ _ _ _ _ _ _ _ _
theorem more_all (R : Nat → Prop) (n : Nat) (ss : Nat → SV) (m : Nat) (bs : Nat → BM) (sp l : Nat) (q : ItP) (hSh : Shape n ss m bs) (J Jx : List FX → (Nat → Prop) → World → Prop) (hJ : Abide J) (hY : Owes R n ss m bs l J Jx) : ∀ r, MoreOk R n ss m bs sp l q J Jx r
 | 0 => fun N p sa xs O W hp hin hE hs hj hpos => by
  have hp' : p.length = n := by omega
  have h := more_leaf R n ss m bs sp l q hSh J Jx hJ hY N p hp' hin sa xs O W hE (hs.weak (fun _ h => h.1)) hj hpos
  rw [← hp'] at h ⊢
  exact h
 | r + 1 => more_node R n ss m bs sp l q hSh J Jx hJ r (more_all R n ss m bs sp l q hSh J Jx hJ hY r)
end Go.Proofs.YtgmpelhphnmknaaGreat
namespace Go.Proofs.YtgmpelhphnmknaaGreat
open Go.RowKit Go.Shelf
theorem htake_ImFld {P : Program} {md : Region.Mode} {Q : Exit → Act → World → Prop} {S : World → Prop} {l : List Oper} {n f : Nat} {listed : Array Bool} {a : Act} {w : World} {v : Value} {oi : Oper} {X : Prop} (i : Nat) (q : X) (hi : l.toArray[i]? = some oi := by rfl) (hB : TkB md l n listed i = true := by kernel_rfl) (hQ : ∀ c a w, Q (.panic c) (a.put oi.dst v) w → Q (.panic c) a w := by exact fun _ _ _ h => h) (hy : YieldsIf P l.toArray S oi v a := by (refine Or.inl ⟨by rfl, ?_⟩; intro w' hSw; (try dsimp only at hSw); (try obtain ⟨hSw1, hSw2, hSw3⟩ := hSw); go_simp; (try with_reducible rfl))) (hS : S w := by assumption) (hx : X → headH P md l.toArray Q S n (tailL P md l Q n) f (listed.setIfInBounds i true) (a.put oi.dst v) w := by (intro qq; refine hnm ?_; exact qq)) : headH P md l.toArray Q S n (tailL P md l Q n) (f + 1) listed a w := headH_take hi hB hQ hy hS (hx q)
theorem fields_any (sp : Nat) (w : World) :
  Calls Tryz.prog 53 #[.pointer (some ⟨sp, 0, none⟩)] w fun e w' => e = .returned (.func (.func 98) #[] #[.pointer (some ⟨w.heap.size, 0, none⟩)]) ∧ w.alloc (.cells #[.pointer (some ⟨sp, 0, none⟩)] 127) = w' := by
 go_enter Tryz.func53, Tryz.ntmps53
 go_wp2
 go_ret
 exact ⟨rfl, rfl⟩
theorem alloc_kept {W V : World} {o : Obj} (hb : Below (W.alloc o).heap.size (W.alloc o) V) : V.heap[W.heap.size]? = some o := (hb.block _ (by simp)).trans (heap_alloc_new W o)
theorem alloc_below (V : World) (o : Obj) : Below V.heap.size V (V.alloc o) := (Below.refl _ _).alloc (Nat.le_refl _) _
theorem four_allocs (W : World) (o1 o2 o3 o4 : Obj) : Below W.heap.size W ((((W.alloc o1).alloc o2).alloc o3).alloc o4) ∧ ((((W.alloc o1).alloc o2).alloc o3).alloc o4).heap.size = W.heap.size + 1 + 1 + 1 + 1 ∧ ((((W.alloc o1).alloc o2).alloc o3).alloc o4).heap[W.heap.size]? = some o1 ∧ ((((W.alloc o1).alloc o2).alloc o3).alloc o4).heap[W.heap.size + 1]? = some o2 ∧ ((((W.alloc o1).alloc o2).alloc o3).alloc o4).heap[W.heap.size + 1 + 1]? = some o3 ∧ ((((W.alloc o1).alloc o2).alloc o3).alloc o4).heap[W.heap.size + 1 + 1 + 1]? = some o4 := by
 have a1 := alloc_below W o1
 have a2 := alloc_below (W.alloc o1) o2
 have a3 := alloc_below ((W.alloc o1).alloc o2) o3
 have a4 := alloc_below (((W.alloc o1).alloc o2).alloc o3) o4
 have z1 : (W.alloc o1).heap.size = W.heap.size + 1 := by simp
 have z2 : ((W.alloc o1).alloc o2).heap.size = W.heap.size + 1 + 1 := by simp
 have z3 : (((W.alloc o1).alloc o2).alloc o3).heap.size = W.heap.size + 1 + 1 + 1 := by simp
 have b3 := a3.trans (a4.mono a3.size)
 have b2 := a2.trans (b3.mono a2.size)
 refine ⟨a1.trans (b2.mono a1.size), by simp, alloc_kept b2, ?_, ?_, ?_⟩
 ·have := alloc_kept (W := W.alloc o1) b3; rwa [z1] at this
 ·have := alloc_kept (W := (W.alloc o1).alloc o2) a4; rwa [z2] at this
 ·have := heap_alloc_new (((W.alloc o1).alloc o2).alloc o3) o4; rwa [z3] at this
theorem env_start {R : Nat → Prop} {n : Nat} {ss : Nat → SV} {m : Nat} {bs : Nat → BM} {sp l sB : Nat} {w W V : World} (hS : SearchAt R n ss m bs sp w) (hR : ∀ b, R b → b < w.heap.size) (hsB : R sB) (hs : w.cell? ⟨sB, 0, none⟩ = some (.pointer (some ⟨sp, 0, none⟩))) (hW : Below w.heap.size w W) (hV : Below W.heap.size W V)
  (h1 : V.cell? ⟨W.heap.size, 0, none⟩ = some (.func (.yield l) #[] #[])) (h2 : V.cell? ⟨W.heap.size + 2, 0, none⟩ = some (.slice (some ⟨W.heap.size + 1, 0, none⟩) n n))
  (h3 : V.cell? ⟨W.heap.size + 3, 0, none⟩ = some (.func (.func 99) #[] #[.pointer (some ⟨sB, 0, none⟩), .pointer (some ⟨W.heap.size, 0, none⟩), .pointer (some ⟨W.heap.size + 2, 0, none⟩), .pointer (some ⟨W.heap.size + 3, 0, none⟩)]))
  {g : Nat → Int} (h4 : IR 3 V (W.heap.size + 1) n g) (hz : W.heap.size + 3 < V.heap.size) :
  EnvF R n ss m bs sp l ⟨sB, W.heap.size, W.heap.size + 2, W.heap.size + 1, W.heap.size + 3⟩ [] (ownAlso (fun _ => False) W V) V := by
 have hb := hW.trans (hV.mono hW.size)
 have hr : Rests R w V := Rests.below hb hR
 have hzz := hb.size
 have hwz := hW.size
 have own : ∀ b, W.heap.size ≤ b → b < V.heap.size → ownAlso (fun _ => False) W V b := fun b h1 h2 => .inr ⟨h1, h2⟩
 exact ⟨hS.rests hr hzz, hsB, (hr.cell hsB).trans hs, own _ (by dsimp only; omega) (by dsimp only; omega), h1, own _ (by dsimp only; omega) (by dsimp only; omega), h2, own _ (by dsimp only; omega) (by dsimp only; omega), h3, own _ (by dsimp only; omega) (by dsimp only; omega), ⟨g, h4, fun c hc => by simp at hc⟩, ⟨by dsimp only; omega, by dsimp only; omega, by dsimp only; omega⟩,
  fun b hb => hb.elim (fun h => h.elim) (fun h => h.2), fun b h => by have := hR b h; omega, fun b h1 h2 => h1.elim (fun h => h.elim) (fun h => by have := hR b h2; have := h.1; omega)⟩
theorem fields_seq (R : Nat → Prop) (n : Nat) (ss : Nat → SV) (m : Nat) (bs : Nat → BM) (sp sB : Nat) (hSh : Shape n ss m bs) (w : World) (hS : SearchAt R n ss m bs sp w) (hR : ∀ b, R b → b < w.heap.size) (hsB : R sB) (hs : w.cell? ⟨sB, 0, none⟩ = some (.pointer (some ⟨sp, 0, none⟩))) :
  SeqOwn Tryz.prog 98 #[.pointer (some ⟨sB, 0, none⟩)] (encFX n m) R (Shown n ss m bs) (Nxt n ss m bs) (fun xs => xs.map FX.f = allF n ss m bs) (fun pre => ∃ k, pre.map FX.f = (allF n ss m bs).take k) w := by
 intro l J Jx W hW hJ hJx hY h0 N
 refine callsIn_wide.2 ?_
 have hn := hSh.n40
 have hm := hSh.m20
 have hr : Rests R w W := Rests.below hW hR
 have hSW := hS.rests hr hW.size
 obtain ⟨ca, cc, ba, bc, wa, wc, ra, rc, g0, g1, _⟩ := hSW.img
 have hsW := (hr.cell hsB).trans hs
 have hsz : sB < W.heap.size := by have := hR _ hsB; have := hW.size; omega
 have hspz := hSW.lt
 have hmk1 := make_ints n (by omega)
 have hmk2 := make_ints m (by omega)
 have HM := Hd (fun V (hV : Below W.heap.size W V) h1 h2 h3 g h4 hz => env_start (l := l) (V := V) hS hR hsB hs hW hV h1 h2 h3 (g := g) h4 hz)
 have HJ0 := Hd (fun V (hV : Below W.heap.size W V) => hJ _ _ _ _ _ h0 (Turn.of_below hV))
 have HMO := Hd (fun q => more_all R n ss m bs sp l q hSh J Jx hJ hY n)
 clear hY h0 hSW hS hs hW
 go_enter Tryz.func98, Tryz.ntmps98
 go_upto_region 4 with (fail)
 obtain ⟨hVb, hVz, e1, e2, e3, e4⟩ := four_allocs W (.cells #[.func (.yield l) #[] #[]] 196) (.cells (madeCells #[.int .i64 0] n) 3) (.cells #[.slice (some ⟨W.heap.size + 1, 0, none⟩) n n] 24) (.cells #[.func (.func 99) #[] #[.pointer (some ⟨sB, 0, none⟩), .pointer (some ⟨W.heap.size, 0, none⟩), .pointer (some ⟨W.heap.size + 1 + 1, 0, none⟩), .pointer (some ⟨W.heap.size + 1 + 1 + 1, 0, none⟩)]] 197)
 generalize World.alloc (World.alloc (World.alloc (World.alloc W _) _) _) _ = V at *
 have HIR := Hd (show IR 3 V (W.heap.size + 1) n (fun _ => 0) from ⟨_, e2, by have e : (madeCells #[Value.int .i64 0] n).toList = List.replicate n (.int .i64 0) := toList_madeCells_one _ _; have := congrArg List.length e; simpa using this, fun j hj => by
  have e : (madeCells #[Value.int .i64 0] n).toList = List.replicate n (.int .i64 0) := toList_madeCells_one _ _
  rw [← Array.getElem?_toList, e]; simp [hj]⟩)
 have HE := Hd (fun V' (hV' : Below V.heap.size V V') => HM.out V' (hVb.trans (hV'.mono hVb.size)) (((bcell hV').1 _ _ (by omega)).trans (cell_of_row _ _ _ _ _ _ e1)) (((bcell hV').1 _ _ (by omega)).trans (cell_of_row _ _ _ _ _ _ e3)) (((bcell hV').1 _ _ (by omega)).trans (cell_of_row _ _ _ _ _ _ e4)) _ (HIR.out.step hV') (by have := hV'.size; omega))
 have HJV := Hd (fun V' (hV' : Below V.heap.size V V') => HJ0.out V' (hVb.trans (hV'.mono hVb.size)))
 have d0 : V.cell? ⟨W.heap.size + 1 + 1 + 1, 0, none⟩ = some (.func (.func 99) #[] #[.pointer (some ⟨sB, 0, none⟩), .pointer (some ⟨W.heap.size, 0, none⟩), .pointer (some ⟨W.heap.size + 1 + 1, 0, none⟩), .pointer (some ⟨W.heap.size + 1 + 1 + 1, 0, none⟩)]) := cell_of_row _ _ _ _ _ _ e4
 have d1 := ((bcell hVb).1 _ _ hsz).trans hsW
 have d2 := ((bcell hVb).1 _ _ hspz).trans g1
 have hb1 : W.heap.size + 1 + 1 + 1 < V.heap.size := by omega
 have hb2 : sB < V.heap.size := by omega
 have hb3 : sp < V.heap.size := by omega
 clear HM HJ0 e1 e2 e3 e4 hsW g0 g1 hVz hr HIR
 refine wp_region_any (by kernel_rfl) ?_
 change wpAny _ _ _ _ _ _ _ (World.drew V)
 have d0 : V.drew.cell? ⟨W.heap.size + 1 + 1 + 1, 0, none⟩ = _ := d0
 have d1 : V.drew.cell? ⟨sB, 0, none⟩ = _ := d1
 have d2 : V.drew.cell? ⟨sp, 1, none⟩ = _ := d2
 have HBD := Hd (show Below V.heap.size V V.drew from (Below.refl _ _).drew)
 generalize World.drew V = Vd at *
 refine any_of_tail 8 8 (fun w' => w'.cell? ⟨W.heap.size + 1 + 1 + 1, 0, none⟩ = some (.func (.func 99) #[] #[.pointer (some ⟨sB, 0, none⟩), .pointer (some ⟨W.heap.size, 0, none⟩), .pointer (some ⟨W.heap.size + 1 + 1, 0, none⟩), .pointer (some ⟨W.heap.size + 1 + 1 + 1, 0, none⟩)]) ∧ w'.cell? ⟨sB, 0, none⟩ = some (.pointer (some ⟨sp, 0, none⟩)) ∧ w'.cell? ⟨sp, 1, none⟩ = some (.slice ba m bc)) (by kernel_rfl) ⟨d0, d1, d2⟩ (fun hS => ?_)
 refine htake_ImFld 0 ?_
 refine htake_ImFld 1 ?_
 refine htake_ImFld 2 ?_
 refine htake_ImFld 3 ?_
 refine htake_ImFld 4 ?_
 refine htake_ImFld 5 ?_
 refine htake_ImFld 6 ?_
 refine headH_one 7 ?_
 refine headH_op rfl (fun K hK => ?_)
 go_simp
 have HB2 := Hd (HBD.out.trans ((alloc_below Vd (.cells (madeCells #[.int .i64 0] m) 3)).mono HBD.out.size))
 have HRW := Hd (IR.made Vd 3 m)
 have hVd := HBD.out.size
 have hbd1 : W.heap.size + 1 < Vd.heap.size := by omega
 clear HBD hmk1 hmk2 hS
 generalize World.alloc Vd _ = V2 at *
 generalize Vd.heap.size = nb at *
 refine hK.out _ _ ⟨((bcell HB2.out).1 _ _ hb1).trans (by assumption), ((bcell HB2.out).1 _ _ hb2).trans (by assumption), ((bcell HB2.out).1 _ _ hb3).trans (by assumption)⟩ (fun hS2 => ?_)
 clear hK K
 (try dsimp only [Act.put]); (try simp only [hns])
 change tailL _ _ _ _ _ _ _ _
 refine ⟨by kernel_rfl, ?_⟩
 simp only [List.drop_succ_cons, List.drop_zero]
 have HCL := Hd (show Calls Tryz.prog 99 #[.int .i64 0, .slice (some ⟨nb, 0, none⟩) m m, .pointer (some ⟨sB, 0, none⟩), .pointer (some ⟨W.heap.size, 0, none⟩), .pointer (some ⟨W.heap.size + 1 + 1, 0, none⟩), .pointer (some ⟨W.heap.size + 1 + 1 + 1, 0, none⟩)] V2 (MoreRes R n ss m bs (W.heap.size + 1) J Jx n [] [] (ownAlso (fun _ => False) W V2) V2) from
  callsIn_wide.1 (HMO.out ⟨sB, W.heap.size, W.heap.size + 1 + 1, W.heap.size + 1, W.heap.size + 1 + 1 + 1⟩ 0 [] (some ⟨nb, 0, none⟩) [] _ V2 (by simp) (fun c hc => by simp at hc) (HE.out V2 HB2.out) (.inr ⟨nb, 0, rfl, ⟨.inr ⟨by omega, HRW.out.lt⟩, by dsimp only; omega⟩, HRW.out.lt, fun i hi => by rw [Nat.zero_add]; exact HRW.out.cell hi⟩) (HJV.out V2 HB2.out) (fun x hx => by cases hx)))
 have HRS := Hd (fun e W' (h : MoreRes R n ss m bs (W.heap.size + 1) J Jx n [] [] (ownAlso (fun _ => False) W V2) V2 e W') => show ∃ b, e = .returned (.bool b) ∧ ((∃ xs O, xs.map FX.f = allF n ss m bs ∧ J xs O W') ∨ (∃ pre O, (∃ k, pre.map FX.f = (allF n ss m bs).take k) ∧ Jx pre O W')) from by
  rcases h with ⟨he, ys, O', h1, h2, _⟩ | ⟨he, ys, O', h1, h2⟩
  ·exact ⟨true, he, .inl ⟨ys, O', by rw [h1, vis_all hSh], h2⟩⟩
  ·exact ⟨false, he, .inr ⟨ys, O', by rw [← vis_all hSh]; exact h1, h2⟩⟩)
 generalize MoreRes R n ss m bs (W.heap.size + 1) J Jx n [] [] (ownAlso (fun _ => False) W V2) V2 = RES at *
 clear HE HJV HMO HB2 HRW hS2
 go_wp2_with (go_at_call 99; with_reducible refine HCL.out.mono ?_; intro e W3 hres; obtain ⟨bb, rfl, hfin⟩ := HRS.out _ _ hres)
 go_end0
 exact ⟨⟨_, rfl⟩, hfin⟩
end Go.Proofs.YtgmpelhphnmknaaGreat
namespace Go.Proofs.YtgmpelhphnmknaaGreat
open Go.RowKit Go.Shelf
structure Mine (R X O : Nat → Prop) (W : World) : Prop where
 off : ∀ b, X b → ¬ O b
 rest : ∀ b, X b → ¬ R b
 cells : ∀ b, X b → ∃ o, W.heap[b]? = some o ∧ o.isCells = true
theorem Mine.lt {R X O : Nat → Prop} {W : World} (h : Mine R X O W) {b : Nat} (hb : X b) : b < W.heap.size := by
 obtain ⟨o, h1, _⟩ := h.cells b hb
 exact (blkL h1)
structure BodyStep (X : Nat → Prop) (W W' : World) (X' : Nat → Prop) : Prop where
 os : W'.os = W.os
 tape : W'.tape = W.tape
 output : W'.output = W.output
 size : W.heap.size ≤ W'.heap.size
 block : ∀ b, b < W.heap.size → ¬ X b → W'.heap[b]? = W.heap[b]?
 new : ∀ b, X' b → X b ∨ W.heap.size ≤ b
 cells : ∀ b, X' b → ∃ o, W'.heap[b]? = some o ∧ o.isCells = true
theorem BodyStep.refl {R X O : Nat → Prop} {W : World} (h : Mine R X O W) : BodyStep X W W X := ⟨rfl, rfl, rfl, Nat.le_refl _, fun _ _ _ => rfl, fun _ h => .inl h, h.cells⟩
theorem BodyStep.below {R X O : Nat → Prop} {W W' : World} (h : Mine R X O W) (hb : Below W.heap.size W W') : BodyStep X W W' X := ⟨hb.os, hb.tape, hb.output, hb.size, fun b hl _ => hb.block b hl, fun _ h => .inl h, fun b hx => by
 obtain ⟨o, h1, h2⟩ := h.cells b hx
 exact ⟨o, (hb.block b (h.lt hx)).trans h1, h2⟩⟩
theorem BodyStep.trans {X X' X'' : Nat → Prop} {A B C : World} (h : BodyStep X A B X') (k : BodyStep X' B C X'') : BodyStep X A C X'' :=
 ⟨k.os.trans h.os, k.tape.trans h.tape, k.output.trans h.output, Nat.le_trans h.size k.size, fun b hl hx => (k.block b (Nat.lt_of_lt_of_le hl h.size) (fun h1 => (h.new b h1).elim hx (fun h2 => by omega))).trans (h.block b hl hx), fun b hb => (k.new b hb).elim (h.new b) (fun h1 => .inr (Nat.le_trans h.size h1)), k.cells⟩
theorem BodyStep.setCell {X X' : Nat → Prop} {A B : World} (h : BodyStep X A B X') {b o : Nat} (hb : X b) (v : Value) : BodyStep X A (B.setCell ⟨b, o, none⟩ v) X' :=
 ⟨h.os, h.tape, h.output, by have := h.size; simpa [World.setCell] using this, fun k hl hk => (Below.heap_setCell B ⟨b, o, none⟩ v k (fun e => hk (by rw [show k = b from e]; exact hb))).trans (h.block k hl hk), h.new, fun k hk => by
  obtain ⟨u, h1, h2⟩ := h.cells k hk
  by_cases e : k = b
  ·subst e
   cases u with
   | cells cur t f => exact ⟨.cells (cur.setIfInBounds o v) t f, by simp [World.setCell, Array.getElem?_modify, h1], rfl⟩
   | _ => simp [Obj.isCells] at h2
  ·exact ⟨u, (heap_setCell_other B ⟨b, o, none⟩ k v e).trans h1, h2⟩⟩
theorem BodyStep.keepsFrom {R X X' O : Nat → Prop} {W W' : World} {B : Nat} (h : BodyStep X W W' X') (m : Mine R X O W) : KeepsFrom B W W' :=
 ⟨h.size, fun k o _ hk ho => (h.block k (blkL hk) (fun hx => by
  obtain ⟨u, h1, h2⟩ := m.cells k hx
  rw [hk] at h1
  injection h1 with h1
  rw [h1, h2] at ho
  cases ho)).trans hk⟩
theorem BodyStep.kept {R X X' O : Nat → Prop} {W W' : World} (h : BodyStep X W W' X') (m : Mine R X O W) (hO : ∀ b, O b → b < W.heap.size) (hR : ∀ b, R b → b < W.heap.size) : Kept (With O R) W W' :=
 ⟨h.size, fun b hb => hb.elim (fun h1 => h.block b (hO b h1) (fun h2 => m.off b h2 h1)) (fun h1 => h.block b (hR b h1) (fun h2 => m.rest b h2 h1))⟩
theorem BodyStep.bel {X X' : Nat → Prop} {W W' w0 : World} (h : BodyStep X W W' X') (hX : ∀ b, X b → w0.heap.size ≤ b) (hb : Below w0.heap.size w0 W) : Below w0.heap.size w0 W' :=
 hb.trans ⟨h.os, h.tape, h.output, h.size, fun b hl => h.block b (Nat.lt_of_lt_of_le hl hb.size) (fun hx => by have := hX b hx; omega)⟩
def LoopI (R : Nat → Prop) (w0 : World) (N : Nat) (T : (Nat → Prop) → List FX → World → Prop) (xs : List FX) (O : Nat → Prop) (W : World) : Prop :=
 ∃ X, Mine R X O W ∧ T X xs W ∧ Below w0.heap.size w0 W ∧ (∀ b, O b → N ≤ b) ∧ (∀ b, X b → w0.heap.size ≤ b) ∧ N ≤ W.heap.size
theorem LoopI.abide {R : Nat → Prop} {w0 : World} {N : Nat} (hN : w0.heap.size ≤ N) {T : (Nat → Prop) → List FX → World → Prop} (hT : ∀ X xs W W', T X xs W → (∀ b, X b → W'.heap[b]? = W.heap[b]?) → T X xs W') : Abide (LoopI R w0 N T) := by
 rintro xs O W O' W' ⟨X, hm, ht, hb, hO, hX, hz⟩ tn
 have hk : ∀ b, X b → W'.heap[b]? = W.heap[b]? := fun b hx => tn.block b (hm.lt hx) (hm.off b hx)
 refine ⟨X, ⟨fun b hx h1 => ?_, hm.rest, fun b hx => ?_⟩, hT _ _ _ _ ht hk, hb.trans (tn.below hb.size (fun b h1 => Nat.le_trans hN (hO b h1))), fun b h1 => ?_, hX, Nat.le_trans hz tn.size⟩
 ·rcases (tn.own b).1 h1 with h2 | h2
  ·exact hm.off b hx h2
  ·have := hm.lt hx; omega
 ·obtain ⟨o, h1, h2⟩ := hm.cells b hx
  exact ⟨o, (hk b hx).trans h1, h2⟩
 ·rcases (tn.own b).1 h1 with h2 | h2
  ·exact hO b h2
  ·omega
theorem LoopI.booked {R : Nat → Prop} {w0 : World} {N B : Nat} (hB : w0.heap.size ≤ B) {T : (Nat → Prop) → List FX → World → Prop} (hT : ∀ X xs W W', T X xs W → (∀ b, X b → W'.heap[b]? = W.heap[b]?) → T X xs W') : Booked B (LoopI R w0 N T) := by
 rintro xs O W l o o' ⟨X, hm, ht, hb, hO, hX, hz⟩ hl ho hc
 have hne : ∀ b, X b → b ≠ l := fun b hx e => by
  obtain ⟨u, h1, h2⟩ := hm.cells b hx
  rw [e, ho] at h1
  injection h1 with h1
  rw [← h1, hc] at h2
  cases h2
 have hk : ∀ b, X b → (W.putObj l o').heap[b]? = W.heap[b]? := fun b hx => World.putObj_heap_other (hne b hx)
 exact ⟨X, ⟨hm.off, hm.rest, fun b hx => by
  obtain ⟨u, h1, h2⟩ := hm.cells b hx
  exact ⟨u, (hk b hx).trans h1, h2⟩⟩, hT _ _ _ _ ht hk, hb.trans ⟨rfl, rfl, rfl, by simp, fun b hbl => World.putObj_heap_other (by omega)⟩, hO, hX, by simpa using hz⟩
def roundPost (X : Nat → Prop) (T : (Nat → Prop) → List FX → World → Prop) (Tx : Code → (Nat → Prop) → List FX → World → Prop) (xs : List FX) (W : World) : Exit → Act → World → Prop
 | .normal, _, W' => ∃ X', BodyStep X W W' X' ∧ T X' xs W'
 | .ret, _, W' => ∃ X', BodyStep X W W' X' ∧ Tx .ret X' xs W'
 | .exit id, _, W' => ∃ X', BodyStep X W W' X' ∧ Tx (.exit id) X' xs W'
 | .goto t, _, W' => ∃ X', BodyStep X W W' X' ∧ Tx (.goto t) X' xs W'
 | .panic _, _, _ => False
 | .outgrown, _, _ => False
theorem BodyStep.mine {R X X' O : Nat → Prop} {W W' : World} (h : BodyStep X W W' X') (m : Mine R X O W) (hO : ∀ b, O b → b < W.heap.size) (hR : ∀ b, R b → b < W.heap.size) : Mine R X' O W' :=
 ⟨fun b hx h1 => (h.new b hx).elim (fun h2 => m.off b h2 h1) (fun h2 => by have := hO b h1; omega), fun b hx h1 => (h.new b hx).elim (fun h2 => m.rest b h2 h1) (fun h2 => by have := hR b h1; omega), h.cells⟩
theorem shown_put {n : Nat} {ss : Nat → SV} {m : Nat} {bs : Nat → BM} (x : FX) (O : Nat → Prop) (W : World) (l : Nat) (o' : Obj) (h : Shown n ss m bs x O W) (hl : ¬ O l) : Shown n ss m bs x O (W.putObj l o') := by
 have hk : ∀ b, O b → (W.putObj l o').heap[b]? = W.heap[b]? := fun b hb => World.putObj_heap_other (fun e => hl (by rw [← e]; exact hb))
 refine ⟨h.len, h.ins, ?_, h.sums.rests hk (by simp)⟩
 obtain ⟨b, h1, h2, h3, h4⟩ := h.field
 exact ⟨b, h1, h2, by simpa using h3, fun c hc => (World.cell?_of_block (hk b h2)).trans (h4 c hc)⟩
def GoodF (n : Nat) (ss : Nat → SV) (m : Nat) (bs : Nat → BM) (xs : List FX) : Prop := (xs.map FX.f).Pairwise lexLt ∧ ∀ x ∈ xs, x.f ∈ allF n ss m bs
theorem GoodF.nil {n m : Nat} {ss : Nat → SV} {bs : Nat → BM} : GoodF n ss m bs [] := ⟨List.Pairwise.nil, fun x hx => by cases hx⟩
theorem GoodF.next {n m : Nat} {ss : Nat → SV} {bs : Nat → BM} {xs : List FX} {x : FX} (h : GoodF n ss m bs xs) (hx : Nxt n ss m bs xs x) : GoodF n ss m bs (xs ++ [x]) := by
 refine ⟨?_, fun y hy => ?_⟩
 ·rw [List.map_append, List.map_singleton, List.pairwise_append]
  refine ⟨h.1, List.pairwise_singleton _ _, fun a ha b hb => ?_⟩
  obtain ⟨y, hy, rfl⟩ := List.mem_map.1 ha
  rw [List.mem_singleton] at hb
  subst hb
  exact hx.1 y hy _ (List.prefix_refl _)
 ·rcases List.mem_append.1 hy with h1 | h1
  ·exact h.2 y h1
  ·rw [List.mem_singleton] at h1; subst h1; exact hx.2
theorem GoodF.many {n m : Nat} {ss : Nat → SV} {bs : Nat → BM} {xs : List FX} (h : GoodF n ss m bs xs) : xs.length ≤ (allF n ss m bs).length := by
 have := sorted_length allF_sorted h.1 (l := allF n ss m bs) (fun f hf => by
  obtain ⟨x, hx, rfl⟩ := List.mem_map.1 hf
  exact h.2 x hx)
 simpa using this
theorem wp_fieldsR {g : Operand} {ps : Array Tmp} {assign body : Code} {Q : Exit → Act → World → Prop} {a : Act} {w : World} (R : Nat → Prop) (n : Nat) (ss : Nat → SV) (m : Nat) (bs : Nat → BM) (sp sB : Nat) (hSh : Shape n ss m bs) (hS : SearchAt R n ss m bs sp w) (hR : ∀ b, R b → b < w.heap.size) (hsB : R sB) (hs : w.cell? ⟨sB, 0, none⟩ = some (.pointer (some ⟨sp, 0, none⟩)))
  (w0 : World) (hw : Below w0.heap.size w0 w) (hg : a.eval g = .func (.func 98) #[] #[.pointer (some ⟨sB, 0, none⟩)]) (hps : ps.size = 2)
  (X0 : Nat → Prop) (hX0 : ∀ b, X0 b → w0.heap.size ≤ b ∧ ¬ R b ∧ ∃ o, w.heap[b]? = some o ∧ o.isCells = true)
  (T : (Nat → Prop) → List FX → World → Prop) (Tx : Code → (Nat → Prop) → List FX → World → Prop) (hT : ∀ X xs W W', T X xs W → (∀ b, X b → W'.heap[b]? = W.heap[b]?) → T X xs W') (hTx : ∀ c X xs W W', Tx c X xs W → (∀ b, X b → W'.heap[b]? = W.heap[b]?) → Tx c X xs W')
  (h0 : T X0 [] w) (a1 : FX → Act)
  (hassign : ∀ (l : Nat) (x : FX) (W : World) (K : Act → World → Prop), K (a1 x) W → assign.wpIn (Fence.wide.inRound l) 4 Tryz.prog (Exit.then K (fun _ _ _ => False)) { tmps := (ps.zip (encFX n m x)).foldl (fun t (p, v) => t.setIfInBounds p v) a.tmps, defers := [] } W)
  (hbody : ∀ (l : Nat) (pre : List FX) (x : FX) (O X : Nat → Prop) (W : World), w.heap.size ≤ W.heap.size → Mine R X O W → T X pre W → Shown n ss m bs x O W → Below w0.heap.size w0 W → Rests R w W → (pre ++ [x]).length ≤ (allF n ss m bs).length → body.wpIn (Fence.wide.inRound l) 4 Tryz.prog (roundPost X T Tx (pre ++ [x]) W) (a1 x) W)
  (hdone : ∀ (D : Nat) (xs : List FX) (X : Nat → Prop) (W : World), w.heap.size ≤ D → D < W.heap.size → ¬ X D → xs.map FX.f = allF n ss m bs → T X xs W → Below w0.heap.size w0 W → Rests R w W → W.heap[D]? = some (.deferred (some [])) → Q .normal { a with defers := { target := .collected D, args := #[] } :: a.defers } W)
  (hstop : ∀ (D : Nat) (c : Code) (pre : List FX) (X : Nat → Prop) (W : World), w.heap.size ≤ D → D < W.heap.size → ¬ X D → (∃ k, pre.map FX.f = (allF n ss m bs).take k) → Tx c X pre W → Below w0.heap.size w0 W → W.heap[D]? = some (.deferred (some [])) → c.wp Tryz.prog Q { a with defers := { target := .collected D, args := #[] } :: a.defers } W) :
  (Code.rangeFunc g ps assign body).wp Tryz.prog Q a w := by
 refine (wpIn_wide (n := 6)).1 ?_
 have hN : w0.heap.size ≤ w.heap.size := hw.size
 -- what the iterator reads stays as it was
 let I : List FX → (Nat → Prop) → World → Prop := fun xs O W => LoopI R w0 w.heap.size T xs O W ∧ ((Rests R w W ∧ w.heap.size ≤ W.heap.size) ∧ GoodF n ss m bs xs)
 let Ix : Code → List FX → (Nat → Prop) → World → Prop := fun c xs O W => LoopI R w0 w.heap.size (Tx c) xs O W
 have hRa : ∀ O W O' W', (∀ b, O b → w.heap.size ≤ b) → (Rests R w W ∧ w.heap.size ≤ W.heap.size) → Turn O W O' W' → Rests R w W' ∧ w.heap.size ≤ W'.heap.size := fun O W O' W' hO h tn =>
  ⟨fun b hb => (tn.block b (by have := hR b hb; omega) (fun h1 => by have := hO b h1; have := hR b hb; omega)).trans (h.1 b hb), Nat.le_trans h.2 tn.size⟩
 refine wpIn_range_own (P := Tryz.prog) (g := g) hg (enters_of Tryz.func98 (by kernel_rfl) rfl) (fields_seq R n ss m bs sp sB hSh w hS hR hsB hs) hR (Below.refl _ _) (fun x => by rw [hps]; rfl)
  shown_put I Ix ?hI (fun c => LoopI.abide hN (hTx c)) ?hIb (fun c => LoopI.booked hw.size (hTx c)) ?h0 (fun x a' O W => a' = a1 x) (fun _ _ _ _ _ _ h _ => h) ?hassign ?hbody ?hdone ?hstop
 case hI =>
  rintro xs O W O' W' ⟨h1, h2, hG⟩ tn
  obtain ⟨X, hm, ht, hb, hO, hX, hz⟩ := id h1
  exact ⟨LoopI.abide hN hT _ _ _ _ _ h1 tn, hRa _ _ _ _ hO h2 tn, hG⟩
 case hIb =>
  rintro xs O W l o o' ⟨h1, h2, hG⟩ hl ho hc
  exact ⟨LoopI.booked hw.size hT _ _ _ _ _ _ h1 hl ho hc, ⟨fun b hb => (World.putObj_heap_other (by have := hR b hb; omega)).trans (h2.1 b hb), by simpa using h2.2⟩, hG⟩
 case h0 =>
  intro W hb
  have hk : ∀ b, X0 b → W.heap[b]? = w.heap[b]? := fun b hx => by
   obtain ⟨_, _, o, h1, _⟩ := hX0 b hx
   exact hb.block b (blkL h1)
  exact ⟨⟨X0, ⟨fun b _ h => h, fun b hx => (hX0 b hx).2.1, fun b hx => by
   obtain ⟨_, _, o, h1, h2⟩ := hX0 b hx
   exact ⟨o, (hk b hx).trans h1, h2⟩⟩, hT _ _ _ _ h0 hk, hw.trans (hb.mono hw.size), fun b h => h.elim, fun b hx => (hX0 b hx).1, hb.size⟩, ⟨Rests.below hb hR, hb.size⟩, GoodF.nil⟩
 case hassign =>
  rintro l pre x O W K hz hO hI hsh hK
  exact hassign l x W K (hK _ _ (KeepsFrom.refl _ _) (Kept.refl _ _) hI rfl hsh)
 case hbody =>
  rintro l pre x a' O W hl hz hO ⟨⟨X, hm, ht, hb, hOn, hX, hzz⟩, ⟨hr, hww⟩, hG⟩ rfl hsh hnx
  have hG2 := hG.next hnx
  have hOl : ∀ b, O b → b < W.heap.size := fun b h => (hO b h).2
  have hRl : ∀ b, R b → b < W.heap.size := fun b h => by have := hR b h; omega
  have hX' : ∀ W' X', BodyStep X W W' X' → ∀ b, X' b → w0.heap.size ≤ b := fun W' X' st b hx => (st.new b hx).elim (hX b) (fun h => by have := hb.size; omega)
  refine wpIn_mono (hbody l pre x O X W hww hm ht hsh hb hr hG2.many) ?_
  intro e a' W' hp
  cases e with
  | normal =>
   obtain ⟨X', st, h1⟩ := hp
   have mn := st.mine hm hOl hRl
   exact ⟨st.keepsFrom hm, st.kept hm hOl hRl, ⟨X', mn, h1, st.bel hX hb, hOn, hX' _ _ st, Nat.le_trans hzz st.size⟩, ⟨fun b h => (st.block b (hRl b h) (fun hx => hm.rest b hx h)).trans (hr b h), Nat.le_trans hww st.size⟩, hG2⟩
  | ret =>
   obtain ⟨X', st, h1⟩ := hp
   exact ⟨st.keepsFrom hm, X', st.mine hm hOl hRl, h1, st.bel hX hb, hOn, hX' _ _ st, Nat.le_trans hzz st.size⟩
  | exit id =>
   obtain ⟨X', st, h1⟩ := hp
   exact ⟨st.keepsFrom hm, X', st.mine hm hOl hRl, h1, st.bel hX hb, hOn, hX' _ _ st, Nat.le_trans hzz st.size⟩
  | goto t =>
   obtain ⟨X', st, h1⟩ := hp
   exact ⟨st.keepsFrom hm, X', st.mine hm hOl hRl, h1, st.bel hX hb, hOn, hX' _ _ st, Nat.le_trans hzz st.size⟩
  | panic ch => exact hp.elim
  | outgrown => exact hp.elim
 case hdone =>
  rintro D xs O W hD hDO hxs ⟨⟨X, hm, ht, hb, hOn, hX, hzz⟩, ⟨hr, hww⟩, hG⟩ hDD
  have hlt : D < W.heap.size := (blkL hDD)
  refine hdone D xs X W hD hlt (fun hx => ?_) hxs ht hb hr hDD
  obtain ⟨u, h1, h2⟩ := hm.cells D hx
  rw [hDD] at h1
  injection h1 with h1
  rw [← h1] at h2
  cases h2
 case hstop =>
  rintro D c pre O W hD hDO hxs ⟨X, hm, ht, hb, hOn, hX, hzz⟩ hDD
  refine wpIn_wide.2 ?_
  have hlt : D < W.heap.size := (blkL hDD)
  refine hstop D c pre X W hD hlt (fun hx => ?_) hxs ht hb hDD
  obtain ⟨u, h1, h2⟩ := hm.cells D hx
  rw [hDD] at h1
  injection h1 with h1
  rw [← h1] at h2
  cases h2
theorem wp_fields {g : Operand} {ps : Array Tmp} {assign body : Code} {Q : Exit → Act → World → Prop} {a : Act} {w : World} (R : Nat → Prop) (n : Nat) (ss : Nat → SV) (m : Nat) (bs : Nat → BM) (sp sB : Nat) (hSh : Shape n ss m bs) (hS : SearchAt R n ss m bs sp w) (hR : ∀ b, R b → b < w.heap.size) (hsB : R sB) (hs : w.cell? ⟨sB, 0, none⟩ = some (.pointer (some ⟨sp, 0, none⟩)))
  (w0 : World) (hw : Below w0.heap.size w0 w) (hg : a.eval g = .func (.func 98) #[] #[.pointer (some ⟨sB, 0, none⟩)]) (hps : ps.size = 2)
  (X0 : Nat → Prop) (hX0 : ∀ b, X0 b → w0.heap.size ≤ b ∧ ¬ R b ∧ ∃ o, w.heap[b]? = some o ∧ o.isCells = true)
  (T : (Nat → Prop) → List FX → World → Prop) (Tx : Code → (Nat → Prop) → List FX → World → Prop) (hT : ∀ X xs W W', T X xs W → (∀ b, X b → W'.heap[b]? = W.heap[b]?) → T X xs W') (hTx : ∀ c X xs W W', Tx c X xs W → (∀ b, X b → W'.heap[b]? = W.heap[b]?) → Tx c X xs W')
  (h0 : T X0 [] w) (a1 : FX → Act)
  (hassign : ∀ (l : Nat) (x : FX) (W : World) (K : Act → World → Prop), K (a1 x) W → assign.wpIn (Fence.wide.inRound l) 4 Tryz.prog (Exit.then K (fun _ _ _ => False)) { tmps := (ps.zip (encFX n m x)).foldl (fun t (p, v) => t.setIfInBounds p v) a.tmps, defers := [] } W)
  (hbody : ∀ (l : Nat) (pre : List FX) (x : FX) (O X : Nat → Prop) (W : World), w.heap.size ≤ W.heap.size → Mine R X O W → T X pre W → Shown n ss m bs x O W → Below w0.heap.size w0 W → Rests R w W → body.wpIn (Fence.wide.inRound l) 4 Tryz.prog (roundPost X T Tx (pre ++ [x]) W) (a1 x) W)
  (hdone : ∀ (D : Nat) (xs : List FX) (X : Nat → Prop) (W : World), w.heap.size ≤ D → D < W.heap.size → ¬ X D → xs.map FX.f = allF n ss m bs → T X xs W → Below w0.heap.size w0 W → W.heap[D]? = some (.deferred (some [])) → Q .normal { a with defers := { target := .collected D, args := #[] } :: a.defers } W)
  (hstop : ∀ (D : Nat) (c : Code) (pre : List FX) (X : Nat → Prop) (W : World), w.heap.size ≤ D → D < W.heap.size → ¬ X D → (∃ k, pre.map FX.f = (allF n ss m bs).take k) → Tx c X pre W → Below w0.heap.size w0 W → W.heap[D]? = some (.deferred (some [])) → c.wp Tryz.prog Q { a with defers := { target := .collected D, args := #[] } :: a.defers } W) :
  (Code.rangeFunc g ps assign body).wp Tryz.prog Q a w :=
 wp_fieldsR R n ss m bs sp sB hSh hS hR hsB hs w0 hw hg hps X0 hX0 T Tx hT hTx h0 a1 hassign (fun l pre x O X W h1 h2 h3 h4 h5 h6 _ => hbody l pre x O X W h1 h2 h3 h4 h5 h6) (fun D xs X W h1 h2 h3 h4 h5 h6 _ h7 => hdone D xs X W h1 h2 h3 h4 h5 h6 h7) hstop
end Go.Proofs.YtgmpelhphnmknaaGreat
