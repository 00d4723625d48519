/- Texts put together: RkE, RkF, RkG0, RkG, RkH, RkI. -/
import Derived.Test.YtkdopjkdokgipaaGreatDoorGxA
import Derived.Test.YtkdopjkdokgipaaGreatDoorImRange
import Derived.LoopIn
import Derived.Sort.CutIn
import Derived.Test.YtkdopjkdokgipaaGreatDoorGcA
import Derived.Test.YtkdopjkdokgipaaGreatDoorGeA
import Derived.Deep.AppendLies
import Derived.OwnWalkIn
import Derived.Test.YtkdopjkdokgipaaGreatDoorGfA
import Derived.Test.YtkdopjkdokgipaaGreatDoorGjA
import Derived.Test.YtkdopjkdokgipaaGreatDoorGhA
namespace Go.Proofs.YtkdopjkdokgipaaGreatDoor
open Go.RowKit Go.Shelf
set_option linter.unusedVariables false
set_option linter.unusedSimpArgs false
attribute [local go_sem] Oper.semAt_some
/-- a walk in its box -/
def WkAt (v : VO) (r : RY) (q : Nat) (W : World) : Prop := W.heap[q]? = some (.cells #[.int .i64 v.nx, .int .i64 v.ny, .int .i64 v.nz, .int .i64 v.size, .int .i64 r.x, .int .i64 r.dx, .int .i64 v.nx, .int .i64 r.y, .int .i64 r.dy, .int .i64 v.ny, .int .i64 r.z, .int .i64 r.dz, .int .i64 v.nz, .int .i64 (tkF r : Int)] 96)
theorem WkAt.lt {v : VO} {r : RY} {q : Nat} {W : World} (h : WkAt v r q W) : q < W.heap.size := (bl h)
theorem WkAt.step {v : VO} {r : RY} {q : Nat} {W W' : World} (h : WkAt v r q W) (hb : Below W.heap.size W W') : WkAt v r q W' := (hb.block _ h.lt).trans h
set_option maxHeartbeats 400000 in
theorem crossings_any (v : VO) (r : RY) (w : World) :
    Calls Tryz.prog 99 #[wkVal v r] w fun e w' => e = .returned (.func (.func 121) #[] #[.pointer (some ⟨w.heap.size, 0, none⟩)]) ∧ WkAt v r w.heap.size w' ∧ Below w.heap.size w w' := by
  unfold wkVal
  go_enter Tryz.func99, Tryz.ntmps99
  go_wp2
  go_ret
  exact ⟨rfl, heap_alloc_new w _, rk_below w _⟩
def enX (v : VO) (r : RY) (i : Nat) : Array Value := #[.int .i64 (atF v r i)]
set_option maxRecDepth 100000 in
set_option maxHeartbeats 2000000 in
theorem cross_seq (v : VO) (r : RY) (hv : v.Ok) (hr : r.Ok) (q : Nat) (w : World) (hq : WkAt v r q w) :
    SeqOwn Tryz.prog 121 #[.pointer (some ⟨q, 0, none⟩)] (enX v r) (fun b => b = q) (fun _ _ _ => True) (fun pre x => pre = List.range x ∧ ∀ j, j ≤ x → 0 ≤ atF v r j) (fun xs => ∃ m, IsM v r m ∧ xs = List.range (m + 1)) (fun pre => ∃ k, pre = List.range k) w := by
  intro l J Jx W hW hJ hJx hY h0 N
  have HV := Lib.hid hv
  have HR := Lib.hid hr
  have HJ := Lib.hid hJ
  have HY := Lib.hid hY
  have hQW := hq.step hW
  clear hY hJ hJx hv hr
  refine callsIn_of_wp Tryz.func121 rfl trivial ?_ rfl
  simp only [Tryz.ntmps121, List.size_toArray, List.length_cons, List.length_nil, Nat.reduceAdd, Nat.reduceSub, Array.replicate_succ, Array.replicate_zero, List.push_toArray, List.append_toArray, List.nil_append, List.cons_append]
  gi_wp2
  gi_loopw [3] (fun s3 wr => ∃ (i : Nat) (O : Nat → Prop), s3 = .int .i64 (atF v r i) ∧ Hid ((∀ j, j ≤ i → 0 ≤ atF v r j) ∧ J (List.range i) O wr ∧ WkAt v r q wr)) (fun s3 _ => (43200000001 - intOf s3).toNat)
  case atStart => exact ⟨0, _, rfl, Lib.hid ⟨fun j hj => by rw [show j = 0 by omega]; exact Int.le_refl 0, h0, hQW⟩⟩
  case round =>
    clear h0 hQW
    obtain ⟨i, O, rfl, HX⟩ := hrel
    obtain ⟨hge, hj, hqw⟩ := HX.out
    have HGE := Lib.hid hge
    have HQ1 := Lib.hid hqw
    obtain ⟨hlo, hhi⟩ := atF_low HV.out HR.out i
    obtain ⟨fn, tmps, assign, body, hy, hR⟩ := HY.out _ i O wr hj trivial ⟨rfl, hge⟩ (N - 1)
    unfold enX at hy
    clear HX hge hj hqw HY
    gi_wp2
    refine ⟨fun h => (by cases h), hR.mono ?_⟩
    rintro e W3 (⟨rfl, hj3, hk3⟩ | ⟨rfl, hjx3⟩)
    · have HQ := Lib.hid (show WkAt v r q W3 from (hk3.block q (.inr rfl)).trans HQ1.out)
      have HJ3 := Lib.hid hj3
      clear hR hy hj3 hk3 HQ1
      generalize hat : atF v r i = at_ at *
      have HAT := Lib.hid hat
      clear hat
      obtain ⟨c0, c1, c2, c3, c4, c5, c6, c7, c8, c9, c10, c11, c12, c13⟩ := cr14 HQ.out
      gi_wp2
      clear c0 c1 c2 c3 c4 c5 c6 c7 c8 c9 c10 c11 c12 c13
      gi_loopw [4, 14] (fun s4 s14 wx => ∃ a : Nat, a ≤ 3 ∧ s14 = .int .i64 (a : Int) ∧ s4 = .int .i64 (nxA v r at_ a) ∧ Hid (Below W3.heap.size W3 wx)) (fun _ s14 _ => 3 - (intOf s14).toNat)
      case atStart => exact ⟨0, by omega, rfl, rfl, Lib.hid (Below.refl _ _)⟩
      case round =>
        obtain ⟨a, ha, rfl, rfl, HB⟩ := hrel
        by_cases hlt : a < 3
        · have hlt' : (a : Int) < 3 := by omega
          have hix := ix_axes v r hlt
          obtain ⟨⟨g1, g2⟩, ⟨g3, g4⟩, g5, g6⟩ := ax_bound HV.out HR.out a
          have HWH := Lib.hid (fun (W : World) (p : Int) (ht : (axF v r a).t ≠ 0) (hp : -100000 ≤ p ∧ p ≤ 100000) => when_any v r (axF v r a) p W HR.out ht ⟨g1, g2⟩ hp)
          have HNX := Lib.hid (show nxA v r at_ (a + 1) = if (axF v r a).t = 0 then nxA v r at_ a else nxK (fun k => whF (tkF r) (axF v r a) ((k : Int) * v.size)) at_ ((axF v r a).c.toNat + 1) (nxA v r at_ a) from rfl)
          have HPB := Lib.hid (fun (k : Nat) (hk : k ≤ (axF v r a).c.toNat) => place_bound HV.out HR.out a k hk)
          have HQx := Lib.hid (HQ.out.step HB.out)
          unfold AX.val at hix HWH
          unfold wkVal at HWH
          by_cases ht0 : (axF v r a).t = 0
          · rw [if_pos ht0] at HNX
            generalize (axF v r a).b = ab at *
            generalize (axF v r a).t = at2 at *
            generalize (axF v r a).c = ac at *
            subst ht0
            have HB2 := Lib.hid (HB.out.trans ((rk_below wr (.cells #[.int .i64 ab, .int .i64 0, .int .i64 ac] 93)).mono HB.out.size))
            gi_wp2
            go_roundw
            case rel => first | exact ⟨a + 1, by omega, by go_num, by rw [HNX.out], HB2⟩ | ((repeat apply Exists.intro); exact ⟨⟨a + 1, by omega, by go_num, by rw [HNX.out], HB2⟩, rfl⟩)
            case measure => simp [intOf]; omega
          · rw [if_neg ht0] at HNX
            gi_upto_region 6 with (fail)
            have hb1 := rk_below wr (.cells #[.int .i64 (axF v r a).b, .int .i64 (axF v r a).t, .int .i64 (axF v r a).c] 93)
            have hn1 := heap_alloc_new wr (.cells #[.int .i64 (axF v r a).b, .int .i64 (axF v r a).t, .int .i64 (axF v r a).c] 93)
            have HB1 := Lib.hid (HB.out.trans (hb1.mono HB.out.size))
            have HQ1 := Lib.hid (HQx.out.step hb1)
            have HAX := Lib.hid hn1
            clear HB HQx hb1 hn1 hix
            generalize World.alloc wr _ = V1 at *
            generalize wr.heap.size = xb at *
            obtain ⟨ab, hab⟩ : ∃ b, (axF v r a).b = b := ⟨_, rfl⟩
            obtain ⟨at2, hat2⟩ : ∃ b, (axF v r a).t = b := ⟨_, rfl⟩
            obtain ⟨ac, hac⟩ : ∃ b, (axF v r a).c = b := ⟨_, rfl⟩
            rw [hab, hat2, hac] at HAX HWH
            rw [hac] at g5 g6 HNX HPB
            rw [hat2] at ht0
            rw [hab, hat2, hac]
            have x1 := cell_of_row _ _ 1 _ _ _ HAX.out
            have x2 := cell_of_row _ _ 2 _ _ _ HAX.out
            have ht0b : (at2 == 0) = false := beq_eq_false_iff_ne.2 ht0
            have hC : ((ac.toNat : Nat) : Int) = ac := by omega
            have hcl : ac.toNat ≤ 12 := by omega
            have HPC := Lib.hid hC
            generalize ac.toNat = C at *
            subst hC
            gi_wp2
            clear x1 x2
            gi_loopw [4, 23] (fun s4 s23 wy => ∃ k : Nat, k ≤ C + 1 ∧ s23 = .int .i64 (k : Int) ∧ s4 = .int .i64 (nxK (fun k => whF (tkF r) (axF v r a) ((k : Int) * v.size)) at_ k (nxA v r at_ a)) ∧ Hid (Below V1.heap.size V1 wy)) (fun _ s23 _ => C + 1 - (intOf s23).toNat)
            case atStart => exact ⟨0, by omega, rfl, rfl, Lib.hid (Below.refl _ _)⟩
            case round =>
              obtain ⟨k, hk, rfl, rfl, HB⟩ := hrel
              by_cases hkc : k < C + 1
              · have hkc' : (k : Int) < (C : Int) + 1 := by omega
                obtain ⟨hp1, hp2⟩ := HPB.out k (by omega)
                have HWK := Lib.hid (fun (W : World) => HWH.out W ((k : Int) * v.size) ht0 (by omega))
                have HST := Lib.hid (show nxK (fun k => whF (tkF r) (axF v r a) ((k : Int) * v.size)) at_ (k + 1) (nxA v r at_ a) = if at_ < whF (tkF r) (axF v r a) ((k : Int) * v.size) ∧ (nxK (fun k => whF (tkF r) (axF v r a) ((k : Int) * v.size)) at_ k (nxA v r at_ a) < 0 ∨ whF (tkF r) (axF v r a) ((k : Int) * v.size) < nxK (fun k => whF (tkF r) (axF v r a) ((k : Int) * v.size)) at_ k (nxA v r at_ a)) then whF (tkF r) (axF v r a) ((k : Int) * v.size) else nxK (fun k => whF (tkF r) (axF v r a) ((k : Int) * v.size)) at_ k (nxA v r at_ a) from rfl)
                generalize nxK (fun k => whF (tkF r) (axF v r a) ((k : Int) * v.size)) at_ k (nxA v r at_ a) = nb at *
                generalize whF (tkF r) (axF v r a) ((k : Int) * v.size) = tt at *
                generalize hks : (k : Int) * v.size = ks at *
                have HQ2 := HQ1
                have HQ := Lib.hid (HQ1.out.step HB.out)
                have hax := (HB.out.block _ (bl HAX.out)).trans HAX.out
                obtain ⟨x0, x1, x2⟩ := cr3 hax
                obtain ⟨c0, c1, c2, c3, c4, c5, c6, c7, c8, c9, c10, c11, c12, c13⟩ := cr14 HQ.out
                clear hax HWH HPB HNX
                by_cases h1 : at_ < tt
                · by_cases h2 : nb < 0
                  · have HS := Lib.hid (HST.out.trans (if_pos ⟨h1, .inl h2⟩))
                    clear HST
                    (gi_wp2_with (refine ⟨trivial, fun h => (by cases h), ?_⟩; with_reducible refine (callsIn_wide.2 (HWK.out _)).mono ?_; rintro e w' ⟨rfl, hb⟩); have HB2 := Lib.hid (HB.out.trans (hb.mono HB.out.size)); go_roundw; (case rel => first | exact ⟨k + 1, by omega, by go_num, by rw [HS.out], HB2⟩ | ((repeat apply Exists.intro); exact ⟨⟨k + 1, by omega, by go_num, by rw [HS.out], HB2⟩, rfl⟩)); (case measure => (simp [intOf]; omega)))
                  · by_cases h3 : tt < nb
                    · have HS := Lib.hid (HST.out.trans (if_pos ⟨h1, .inr h3⟩))
                      clear HST
                      (gi_wp2_with (refine ⟨trivial, fun h => (by cases h), ?_⟩; with_reducible refine (callsIn_wide.2 (HWK.out _)).mono ?_; rintro e w' ⟨rfl, hb⟩); have HB2 := Lib.hid (HB.out.trans (hb.mono HB.out.size)); go_roundw; (case rel => first | exact ⟨k + 1, by omega, by go_num, by rw [HS.out], HB2⟩ | ((repeat apply Exists.intro); exact ⟨⟨k + 1, by omega, by go_num, by rw [HS.out], HB2⟩, rfl⟩)); (case measure => (simp [intOf]; omega)))
                    · have HS := Lib.hid (HST.out.trans (if_neg (by omega)))
                      clear HST
                      (gi_wp2_with (refine ⟨trivial, fun h => (by cases h), ?_⟩; with_reducible refine (callsIn_wide.2 (HWK.out _)).mono ?_; rintro e w' ⟨rfl, hb⟩); have HB2 := Lib.hid (HB.out.trans (hb.mono HB.out.size)); go_roundw; (case rel => first | exact ⟨k + 1, by omega, by go_num, by rw [HS.out], HB2⟩ | ((repeat apply Exists.intro); exact ⟨⟨k + 1, by omega, by go_num, by rw [HS.out], HB2⟩, rfl⟩)); (case measure => (simp [intOf]; omega)))
                · have HS := Lib.hid (HST.out.trans (if_neg (by omega)))
                  clear HST
                  (gi_wp2_with (refine ⟨trivial, fun h => (by cases h), ?_⟩; with_reducible refine (callsIn_wide.2 (HWK.out _)).mono ?_; rintro e w' ⟨rfl, hb⟩); have HB2 := Lib.hid (HB.out.trans (hb.mono HB.out.size)); go_roundw; (case rel => first | exact ⟨k + 1, by omega, by go_num, by rw [HS.out], HB2⟩ | ((repeat apply Exists.intro); exact ⟨⟨k + 1, by omega, by go_num, by rw [HS.out], HB2⟩, rfl⟩)); (case measure => (simp [intOf]; omega)))
              · obtain rfl : k = C + 1 := by omega
                have hkc' : ¬ ((C + 1 : Nat) : Int) < (C : Int) + 1 := by omega
                have HB2 := Lib.hid (HB1.out.trans (HB.out.mono HB1.out.size))
                rw [← HNX.out]
                gi_wp2
                go_roundw
                case rel => first | exact ⟨a + 1, by omega, by go_num, rfl, HB2⟩ | ((repeat apply Exists.intro); exact ⟨⟨a + 1, by omega, by go_num, rfl, HB2⟩, rfl⟩)
                case measure => simp [intOf]; omega
        · obtain rfl : a = 3 := by omega
          have hlt' : ¬ (3 : Int) < 3 := by omega
          have HNF := Lib.hid (show nxA v r at_ 3 = nxF v r at_ from rfl)
          have hok := nxF_ok HV.out HR.out (at_ := at_) (by omega)
          rw [HNF.out]
          have HAS := Lib.hid (show atF v r (i + 1) = nxF v r at_ from by rw [← HAT.out]; rfl)
          have HJE := Lib.hid (show J (List.range (i + 1)) (ownAlso O W3 wr) wr from HJ.out _ _ _ _ _ (by rw [List.range_succ]; exact HJ3.out) (Turn.of_below HB.out))
          have HQE := Lib.hid (HQ.out.step HB.out)
          by_cases hneg : nxF v r at_ < 0
          · have HIM := Lib.hid (show IsM v r i from ⟨HGE.out, by rw [HAT.out]; exact hneg⟩)
            generalize nxF v r at_ = nx at *
            gi_wp2
            refine bodyPost_ret (results_none rfl _ _ _) rfl ?_
            exact ⟨⟨_, rfl⟩, .inl ⟨_, ⟨i, HIM.out, List.range_succ⟩, _, HJE.out⟩⟩
          · have HGE2 := Lib.hid (fun j (hj : j ≤ i + 1) => show 0 ≤ atF v r j from by
              by_cases e : j = i + 1
              · subst e; rw [HAS.out]; omega
              · exact HGE.out j (by omega))
            have hup : at_ < nxF v r at_ ∧ nxF v r at_ ≤ 43200000000 := by
              rcases hok with h | h
              · omega
              · exact ⟨h.1, h.2.2⟩
            obtain ⟨hu1, hu2⟩ := hup
            generalize nxF v r at_ = nx at *
            gi_wp2
            go_roundw
            case rel => first | exact ⟨i + 1, _, by rw [HAS.out], Lib.hid ⟨HGE2.out, HJE.out, HQE.out⟩⟩ | ((repeat apply Exists.intro); exact ⟨⟨i + 1, _, by rw [HAS.out], Lib.hid ⟨HGE2.out, HJE.out, HQE.out⟩⟩, rfl⟩)
            case measure => have hz := HAT.out; simp [intOf]; omega
    · gi_wp2
      go_end0
      exact ⟨⟨_, rfl⟩, .inr ⟨_, O, ⟨i + 1, by rw [List.range_succ]⟩, hjx3⟩⟩
end Go.Proofs.YtkdopjkdokgipaaGreatDoor
namespace Go.Proofs.YtkdopjkdokgipaaGreatDoor
open Go.RowKit
set_option linter.unusedVariables false
set_option linter.unusedSimpArgs false
/-- a ground in its box -/
structure GrAt (v : VO) (g : Nat → Int) (gn gb : Nat) (W : World) : Prop where
  n : (gn : Int) = v.nx * v.ny
  ok : ∀ i, i < gn → 0 ≤ g i ∧ g i ≤ 12000
  box : ∃ ga gc, W.heap[gb]? = some (.cells #[.slice ga gn gc] 24) ∧ Ints W.heap.size W ga gn g
theorem GrAt.step {v : VO} {g : Nat → Int} {gn gb : Nat} {W W' : World} (h : GrAt v g gn gb W) (hb : Below W.heap.size W W') : GrAt v g gn gb W' := by
  obtain ⟨ga, gc, h1, h2⟩ := h.box
  exact ⟨h.n, h.ok, ga, gc, (hb.block _ (bl h1)).trans h1, (h2.below hb).up hb.size⟩
def PtAt (pb : Nat) (p : PT) (W : World) : Prop := W.heap[pb]? = some (.cells #[.int .i64 p.cell, .int .i64 p.lo, .int .i64 p.hi] 161)
def AxAt (xb : Nat) (a : AX) (W : World) : Prop := W.heap[xb]? = some (.cells #[.int .i64 a.b, .int .i64 a.t, .int .i64 a.c] 93)
theorem PtAt.step {pb : Nat} {p : PT} {W W' : World} (h : PtAt pb p W) (hb : Below W.heap.size W W') : PtAt pb p W' := (hb.block _ (bl h)).trans h
theorem AxAt.step {pb : Nat} {p : AX} {W W' : World} (h : AxAt pb p W) (hb : Below W.heap.size W W') : AxAt pb p W' := (hb.block _ (bl h)).trans h
theorem rk_wrap {x : Int} (h1 : -1000000000000000000 ≤ x) (h2 : x ≤ 1000000000000000000) : IntKind.i64.wrap x = x := by simp [IntKind.wrap, IntKind.bits, IntKind.signed]; omega
theorem mod_bound {v : VO} (hv : v.Ok) {x : Int} (hx : 0 ≤ x) : ∃ k : Nat, x.tmod (v.nx * v.ny) = (k : Int) ∧ (k : Int) < v.nx * v.ny := by
  have h1 : 0 < v.nx * v.ny := Int.mul_pos (by have := hv.x; omega) (by have := hv.y; omega)
  have h2 := Int.tmod_nonneg (v.nx * v.ny) hx
  have h3 := Int.tmod_lt_of_pos x h1
  exact ⟨(x.tmod (v.nx * v.ny)).toNat, by omega, by omega⟩
theorem rk_set3 {V : World} {xb : Nat} {a b c x y z : Value} {t : TypeId} (h : V.heap[xb]? = some (.cells #[a, b, c] t)) : (((V.setCell ⟨xb, 0, none⟩ x).setCell ⟨xb, 1, none⟩ y).setCell ⟨xb, 2, none⟩ z).heap[xb]? = some (.cells #[x, y, z] t) ∧ (∀ k, k ≠ xb → (((V.setCell ⟨xb, 0, none⟩ x).setCell ⟨xb, 1, none⟩ y).setCell ⟨xb, 2, none⟩ z).heap[k]? = V.heap[k]?) ∧ (((V.setCell ⟨xb, 0, none⟩ x).setCell ⟨xb, 1, none⟩ y).setCell ⟨xb, 2, none⟩ z).heap.size = V.heap.size := by
  have h1 := heap_setCell_same V xb 0 _ _ x h
  have h2 := heap_setCell_same _ xb 1 _ _ y h1
  have h3 := heap_setCell_same _ xb 2 _ _ z h2
  exact ⟨h3, fun k hk => (heap_setCell_other _ ⟨xb, 2, none⟩ k _ hk).trans ((heap_setCell_other _ ⟨xb, 1, none⟩ k _ hk).trans (heap_setCell_other V ⟨xb, 0, none⟩ k _ hk)), by simp⟩
theorem under_any (v : VO) (r : RY) (ga : Option Addr) (gn gc : Nat) (w : World) :
    Calls Tryz.prog 77 #[wkVal v r, .slice ga gn gc] w fun e w' => e = .returned (.func (.func 101) #[] #[.pointer (some ⟨w.heap.size + 1, 0, none⟩), .pointer (some ⟨w.heap.size, 0, none⟩)]) ∧ WkAt v r w.heap.size w' ∧ w'.heap[w.heap.size + 1]? = some (.cells #[.slice ga gn gc] 24) ∧ Below w.heap.size w w' := by
  unfold wkVal
  go_enter Tryz.func77, Tryz.ntmps77
  go_wp2
  go_ret
  obtain ⟨h1, h2, h3⟩ := rk_two w (.cells #[.int .i64 v.nx, .int .i64 v.ny, .int .i64 v.nz, .int .i64 v.size, .int .i64 r.x, .int .i64 r.dx, .int .i64 v.nx, .int .i64 r.y, .int .i64 r.dy, .int .i64 v.ny, .int .i64 r.z, .int .i64 r.dz, .int .i64 v.nz, .int .i64 (tkF r : Int)] 96) (.cells #[.slice ga gn gc] 24)
  exact ⟨rfl, h2, h3, h1⟩
set_option maxRecDepth 100000 in
set_option maxHeartbeats 2000000 in
theorem cut_any (v : VO) (r : RY) (hv : v.Ok) (hr : r.Ok) (g : Nat → Int) (gn gb q : Nat) (p : PT) (hp : 0 ≤ p.cell ∧ p.cell ≤ 1000) (w : World) (hq : WkAt v r q w) (hg : GrAt v g gn gb w) :
    Calls Tryz.prog 101 #[p.val, .pointer (some ⟨gb, 0, none⟩), .pointer (some ⟨q, 0, none⟩)] w fun e w' => e = .returned (cutF v r g p).val ∧ Below w.heap.size w w' := by
  obtain ⟨k, hk1, hk2⟩ := mod_bound hv hp.1
  have hkn : k < gn := by have := hg.n; omega
  have HCU := Lib.hid (show cutF v r g p = if 0 < r.dz then ⟨p.cell, p.lo, min p.hi (whF (tkF r) (axF v r 2) (g k))⟩ else if r.dz < 0 then ⟨p.cell, max p.lo (whF (tkF r) (axF v r 2) (g k)), p.hi⟩ else if g k ≤ r.z then ⟨p.cell, p.lo, p.lo⟩ else p from by
    unfold cutF
    rw [hk1, Int.toNat_natCast])
  obtain ⟨hg1, hg2⟩ := hg.ok k hkn
  obtain ⟨ga, gc, hgb, hgi⟩ := hg.box
  obtain ⟨gB, gO, hga, hgl, hgc⟩ := hgi.get hkn
  subst hga
  have HV := Lib.hid hv
  have HR := Lib.hid hr
  have HQ := Lib.hid hq
  have HGB := Lib.hid hgb
  have HGC := Lib.hid hgc
  have hm := rk_mul_abs (x := v.nx) (y := v.ny) (K := 12) (M := 12) (by decide) (by decide) (by have := hv.x; omega) (by have := hv.y; omega)
  obtain ⟨hm1, hm2⟩ : -144 ≤ v.nx * v.ny ∧ v.nx * v.ny ≤ 144 := by omega
  have hmz : v.nx * v.ny ≠ 0 := by omega
  clear hm
  have hgq := (bl hgb)
  have HWH := Lib.hid (fun (W : World) (ht : r.dz ≠ 0) => when_any v r (axF v r 2) (g k) W hr ht (ax_bound hv hr 2).1 (by omega))
  generalize cutF v r g p = C at *
  generalize whF (tkF r) (axF v r 2) (g k) = wh at *
  unfold AX.val wkVal at HWH
  generalize g k = gk at *
  obtain ⟨pc, pl, ph⟩ := p
  unfold PT.val at *
  dsimp only at *
  clear hg hv hr hgi hgb hgc hq
  generalize hnm : v.nx * v.ny = nm at *
  have hwr : IntKind.i64.wrap nm = nm := rk_wrap (by omega) (by omega)
  have hwk : IntKind.i64.wrap ((k : Nat) : Int) = (k : Int) := rk_wrap (by omega) (by omega)
  go_enter Tryz.func101, Tryz.ntmps101
  go_upto_region 1 with (fail)
  obtain ⟨hVb, e1, e2⟩ := rk_two w (.cells #[.int .i64 pc, .int .i64 pl, .int .i64 ph] 161) (.cells #[.int .i64 0, .int .i64 0, .int .i64 0] 161)
  have hqz := HQ.out.lt
  have HP := Lib.hid (show PtAt w.heap.size ⟨pc, pl, ph⟩ ((w.alloc (.cells #[.int .i64 pc, .int .i64 pl, .int .i64 ph] 161)).alloc (.cells #[.int .i64 0, .int .i64 0, .int .i64 0] 161)) from e1)
  have HZ := Lib.hid (show PtAt (w.heap.size + 1) ⟨0, 0, 0⟩ ((w.alloc (.cells #[.int .i64 pc, .int .i64 pl, .int .i64 ph] 161)).alloc (.cells #[.int .i64 0, .int .i64 0, .int .i64 0] 161)) from e2)
  have HB := Lib.hid hVb
  have HQ1 := Lib.hid (HQ.out.step hVb)
  have HG1 := Lib.hid ((hVb.block _ hgq).trans HGB.out)
  have HG2 := Lib.hid (((bcell hVb).1 gB (gO + k) hgl).trans HGC.out)
  clear hVb e1 e2 HQ HGB HGC
  generalize World.alloc (World.alloc w _) _ = V at *
  go_cut [5, 6] from 7 to 22 (fun s5 s6 wx => s5 = .int .i64 gk ∧ ∃ xb, s6 = .pointer (some ⟨xb, 0, none⟩) ∧ w.heap.size + 1 < xb ∧ Hid (AxAt xb (axF v r 2) wx ∧ PtAt w.heap.size ⟨pc, pl, ph⟩ wx ∧ PtAt (w.heap.size + 1) ⟨0, 0, 0⟩ wx ∧ WkAt v r q wx ∧ Below w.heap.size w wx))
  case first =>
    clear HWH HCU
    refine wp_region_any (by kernel_rfl) ?_
    change wpAny _ _ _ _ _ _ _ (World.drew V)
    have HP := Lib.hid (show PtAt w.heap.size ⟨pc, pl, ph⟩ V.drew from HP.out)
    have HZ := Lib.hid (show PtAt (w.heap.size + 1) ⟨0, 0, 0⟩ V.drew from HZ.out)
    have HQ1 := Lib.hid (show WkAt v r q V.drew from HQ1.out)
    have HG1 := Lib.hid (show V.drew.heap[gb]? = _ from HG1.out)
    have HG2 := Lib.hid (show V.drew.cell? ⟨gB, gO + k, none⟩ = _ from HG2.out)
    have HB := Lib.hid (show Below w.heap.size w V.drew from HB.out.drew)
    generalize World.drew V = Vd at *
    refine any_of_tail 18 18 (fun w' => PtAt w.heap.size ⟨pc, pl, ph⟩ w' ∧ WkAt v r q w' ∧ w'.heap[gb]? = some (.cells #[.slice (some ⟨gB, gO, none⟩) gn gc] 24) ∧ w'.cell? ⟨gB, gO + k, none⟩ = some (.int .i64 gk)) (by kernel_rfl) ⟨HP.out, HQ1.out, HG1.out, HG2.out⟩ (fun hS => ?_)
    refine headH_take (i := 0) (v := ?_) rfl (by kernel_rfl) (fun _ _ _ h => h) (Or.inl ⟨by rfl, ?_⟩) (by assumption) ?_; rotate_left; (· intro w' hSw; (try dsimp only at hSw); (obtain ⟨s1, s2, s3, s4⟩ := hSw); have p0 := cell_of_row _ _ 0 _ _ _ s1; obtain ⟨c0, c1, c2, c3, c4, c5, c6, c7, c8, c9, c10, c11, c12, c13⟩ := cr14 s2; have g0 := cell_of_row _ _ 0 _ _ _ s3; (try simp only [hng]); go_simp; (try with_reducible rfl)); (try simp only [hng]); (try dsimp only [Act.put]); (try simp only [hns])
    refine headH_take (i := 1) (v := ?_) rfl (by kernel_rfl) (fun _ _ _ h => h) (Or.inl ⟨by rfl, ?_⟩) (by assumption) ?_; rotate_left; (· intro w' hSw; (try dsimp only at hSw); (obtain ⟨s1, s2, s3, s4⟩ := hSw); have p0 := cell_of_row _ _ 0 _ _ _ s1; obtain ⟨c0, c1, c2, c3, c4, c5, c6, c7, c8, c9, c10, c11, c12, c13⟩ := cr14 s2; have g0 := cell_of_row _ _ 0 _ _ _ s3; (try simp only [hng]); go_simp; (try with_reducible rfl)); (try simp only [hng]); (try dsimp only [Act.put]); (try simp only [hns])
    refine headH_take (i := 2) (v := ?_) rfl (by kernel_rfl) (fun _ _ _ h => h) (Or.inl ⟨by rfl, ?_⟩) (by assumption) ?_; rotate_left; (· intro w' hSw; (try dsimp only at hSw); (obtain ⟨s1, s2, s3, s4⟩ := hSw); have p0 := cell_of_row _ _ 0 _ _ _ s1; obtain ⟨c0, c1, c2, c3, c4, c5, c6, c7, c8, c9, c10, c11, c12, c13⟩ := cr14 s2; have g0 := cell_of_row _ _ 0 _ _ _ s3; (try simp only [hng]); go_simp; (try with_reducible rfl)); (try simp only [hng]); (try dsimp only [Act.put]); (try simp only [hns])
    refine headH_take (i := 3) (v := ?_) rfl (by kernel_rfl) (fun _ _ _ h => h) (Or.inl ⟨by rfl, ?_⟩) (by assumption) ?_; rotate_left; (· intro w' hSw; (try dsimp only at hSw); (obtain ⟨s1, s2, s3, s4⟩ := hSw); have p0 := cell_of_row _ _ 0 _ _ _ s1; obtain ⟨c0, c1, c2, c3, c4, c5, c6, c7, c8, c9, c10, c11, c12, c13⟩ := cr14 s2; have g0 := cell_of_row _ _ 0 _ _ _ s3; (try simp only [hng]); go_simp; (try with_reducible rfl)); (try simp only [hng]); (try dsimp only [Act.put]); (try simp only [hns])
    refine headH_take (i := 4) (v := ?_) rfl (by kernel_rfl) (fun _ _ _ h => h) (Or.inl ⟨by rfl, ?_⟩) (by assumption) ?_; rotate_left; (· intro w' hSw; (try dsimp only at hSw); (obtain ⟨s1, s2, s3, s4⟩ := hSw); have p0 := cell_of_row _ _ 0 _ _ _ s1; obtain ⟨c0, c1, c2, c3, c4, c5, c6, c7, c8, c9, c10, c11, c12, c13⟩ := cr14 s2; have g0 := cell_of_row _ _ 0 _ _ _ s3; (try simp only [hng]); go_simp; (try with_reducible rfl)); (try simp only [hng]); (try dsimp only [Act.put]); (try simp only [hns])
    refine headH_take (i := 5) (v := ?_) rfl (by kernel_rfl) (fun _ _ _ h => h) (Or.inl ⟨by rfl, ?_⟩) (by assumption) ?_; rotate_left; (· intro w' hSw; (try dsimp only at hSw); (obtain ⟨s1, s2, s3, s4⟩ := hSw); have p0 := cell_of_row _ _ 0 _ _ _ s1; obtain ⟨c0, c1, c2, c3, c4, c5, c6, c7, c8, c9, c10, c11, c12, c13⟩ := cr14 s2; have g0 := cell_of_row _ _ 0 _ _ _ s3; (try simp only [hng]); go_simp; (try with_reducible rfl)); (try simp only [hng]); (try dsimp only [Act.put]); (try simp only [hns])
    refine headH_take (i := 6) (v := ?_) rfl (by kernel_rfl) (fun _ _ _ h => h) (Or.inl ⟨by rfl, ?_⟩) (by assumption) ?_; rotate_left; (· intro w' hSw; (try dsimp only at hSw); (obtain ⟨s1, s2, s3, s4⟩ := hSw); have p0 := cell_of_row _ _ 0 _ _ _ s1; obtain ⟨c0, c1, c2, c3, c4, c5, c6, c7, c8, c9, c10, c11, c12, c13⟩ := cr14 s2; have g0 := cell_of_row _ _ 0 _ _ _ s3; (try simp only [hng]); go_simp; (try with_reducible rfl)); (try simp only [hng]); (try dsimp only [Act.put]); (try simp only [hns])
    refine headH_take (i := 7) (v := ?_) rfl (by kernel_rfl) (fun _ _ _ h => h) (Or.inl ⟨by rfl, ?_⟩) (by assumption) ?_; rotate_left; (· intro w' hSw; (try dsimp only at hSw); (obtain ⟨s1, s2, s3, s4⟩ := hSw); have p0 := cell_of_row _ _ 0 _ _ _ s1; obtain ⟨c0, c1, c2, c3, c4, c5, c6, c7, c8, c9, c10, c11, c12, c13⟩ := cr14 s2; have g0 := cell_of_row _ _ 0 _ _ _ s3; (try simp only [hng]); go_simp; (try with_reducible rfl)); (try simp only [hng]); (try dsimp only [Act.put]); (try simp only [hns])
    refine headH_take (i := 8) (v := ?_) rfl (by kernel_rfl) (fun _ _ _ h => h) (Or.inl ⟨by rfl, ?_⟩) (by assumption) ?_; rotate_left; (· intro w' hSw; (try dsimp only at hSw); (obtain ⟨s1, s2, s3, s4⟩ := hSw); have p0 := cell_of_row _ _ 0 _ _ _ s1; obtain ⟨c0, c1, c2, c3, c4, c5, c6, c7, c8, c9, c10, c11, c12, c13⟩ := cr14 s2; have g0 := cell_of_row _ _ 0 _ _ _ s3; (try simp only [hng]); go_simp; (try with_reducible rfl)); (try simp only [hng]); (try dsimp only [Act.put]); (try simp only [hns])
    refine headH_take (i := 9) (v := ?_) rfl (by kernel_rfl) (fun _ _ _ h => h) (Or.inl ⟨by rfl, ?_⟩) (by assumption) ?_; rotate_left; (· intro w' hSw; (try dsimp only at hSw); (obtain ⟨s1, s2, s3, s4⟩ := hSw); have p0 := cell_of_row _ _ 0 _ _ _ s1; obtain ⟨c0, c1, c2, c3, c4, c5, c6, c7, c8, c9, c10, c11, c12, c13⟩ := cr14 s2; have g0 := cell_of_row _ _ 0 _ _ _ s3; (try simp only [hng]); go_simp; (try with_reducible rfl)); (try simp only [hng]); (try dsimp only [Act.put]); (try simp only [hns])
    refine headH_take (i := 10) (v := ?_) rfl (by kernel_rfl) (fun _ _ _ h => h) (Or.inl ⟨by rfl, ?_⟩) (by assumption) ?_; rotate_left; (· intro w' hSw; (try dsimp only at hSw); (obtain ⟨s1, s2, s3, s4⟩ := hSw); have p0 := cell_of_row _ _ 0 _ _ _ s1; obtain ⟨c0, c1, c2, c3, c4, c5, c6, c7, c8, c9, c10, c11, c12, c13⟩ := cr14 s2; have g0 := cell_of_row _ _ 0 _ _ _ s3; (try simp only [hng]); go_simp; (try with_reducible rfl)); (try simp only [hng]); (try dsimp only [Act.put]); (try simp only [hns])
    refine headH_take (i := 11) (v := ?_) rfl (by kernel_rfl) (fun _ _ _ h => h) (Or.inl ⟨by rfl, ?_⟩) (by assumption) ?_; rotate_left; (· intro w' hSw; (try dsimp only at hSw); (obtain ⟨s1, s2, s3, s4⟩ := hSw); have p0 := cell_of_row _ _ 0 _ _ _ s1; obtain ⟨c0, c1, c2, c3, c4, c5, c6, c7, c8, c9, c10, c11, c12, c13⟩ := cr14 s2; have g0 := cell_of_row _ _ 0 _ _ _ s3; (try simp only [hng]); go_simp; (try with_reducible rfl)); (try simp only [hng]); (try dsimp only [Act.put]); (try simp only [hns])
    refine headH_take (i := 12) (v := ?_) rfl (by kernel_rfl) (fun _ _ _ h => h) (Or.inl ⟨by rfl, ?_⟩) (by assumption) ?_; rotate_left; (· intro w' hSw; (try dsimp only at hSw); (obtain ⟨s1, s2, s3, s4⟩ := hSw); have p0 := cell_of_row _ _ 0 _ _ _ s1; obtain ⟨c0, c1, c2, c3, c4, c5, c6, c7, c8, c9, c10, c11, c12, c13⟩ := cr14 s2; have g0 := cell_of_row _ _ 0 _ _ _ s3; (try simp only [hng]); go_simp; (try with_reducible rfl)); (try simp only [hng]); (try dsimp only [Act.put]); (try simp only [hns])
    refine headH_take (i := 13) (v := ?_) rfl (by kernel_rfl) (fun _ _ _ h => h) (Or.inl ⟨by rfl, ?_⟩) (by assumption) ?_; rotate_left; (· intro w' hSw; (try dsimp only at hSw); (obtain ⟨s1, s2, s3, s4⟩ := hSw); have p0 := cell_of_row _ _ 0 _ _ _ s1; obtain ⟨c0, c1, c2, c3, c4, c5, c6, c7, c8, c9, c10, c11, c12, c13⟩ := cr14 s2; have g0 := cell_of_row _ _ 0 _ _ _ s3; (try simp only [hng]); go_simp; (try with_reducible rfl)); (try simp only [hng]); (try dsimp only [Act.put]); (try simp only [hns])
    refine headH_take (i := 14) (v := ?_) rfl (by kernel_rfl) (fun _ _ _ h => h) (Or.inl ⟨by rfl, ?_⟩) (by assumption) ?_; rotate_left; (· intro w' hSw; (try dsimp only at hSw); (obtain ⟨s1, s2, s3, s4⟩ := hSw); have p0 := cell_of_row _ _ 0 _ _ _ s1; obtain ⟨c0, c1, c2, c3, c4, c5, c6, c7, c8, c9, c10, c11, c12, c13⟩ := cr14 s2; have g0 := cell_of_row _ _ 0 _ _ _ s3; (try simp only [hng]); go_simp; (try with_reducible rfl)); (try simp only [hng]); (try dsimp only [Act.put]); (try simp only [hns])
    refine headH_take (i := 15) (v := ?_) rfl (by kernel_rfl) (fun _ _ _ h => h) (Or.inl ⟨by rfl, ?_⟩) (by assumption) ?_; rotate_left; (· intro w' hSw; (try dsimp only at hSw); (obtain ⟨s1, s2, s3, s4⟩ := hSw); have p0 := cell_of_row _ _ 0 _ _ _ s1; obtain ⟨c0, c1, c2, c3, c4, c5, c6, c7, c8, c9, c10, c11, c12, c13⟩ := cr14 s2; have g0 := cell_of_row _ _ 0 _ _ _ s3; (try simp only [hng]); go_simp; (try with_reducible rfl)); (try simp only [hng]); (try dsimp only [Act.put]); (try simp only [hns])
    refine headH_all (rs := [16]) (by kernel_rfl) (by simp) (by kernel_rfl) ?_; intro i0 hi0; simp only [List.mem_cons, List.not_mem_nil, or_false] at hi0; subst hi0
    refine headH_op rfl (fun K hK => ?_)
    (try simp only [hng])
    go_simp
    have hb := rk_below Vd (.cells #[.int .i64 0, .int .i64 0, .int .i64 0] 93)
    have hn := heap_alloc_new Vd (.cells #[.int .i64 0, .int .i64 0, .int .i64 0] 93)
    have HP2 := Lib.hid (HP.out.step hb)
    have HZ2 := Lib.hid (HZ.out.step hb)
    have HQ2 := Lib.hid (HQ1.out.step hb)
    have HB2 := Lib.hid (HB.out.trans (hb.mono HB.out.size))
    refine hK.out _ _ ⟨HP2.out, HQ2.out, (hb.block _ (by have := HB.out.size; omega)).trans HG1.out, ((bcell hb).1 gB (gO + k) (by have := HB.out.size; omega)).trans HG2.out⟩ (fun hS => ?_)
    have HXN := Lib.hid hn
    have hz1 := (bl HZ.out)
    have hxb : w.heap.size + 1 < Vd.heap.size := hz1
    clear hK K hb hn
    generalize World.alloc Vd _ = V2 at *
    generalize Vd.heap.size = xb at *
    (try simp only [hng]); (try dsimp only [Act.put]); (try simp only [hns])
    refine headH_take (i := 17) (v := ?_) rfl (by kernel_rfl) (fun _ _ _ h => h) (Or.inl ⟨by rfl, ?_⟩) (by assumption) ?_; rotate_left; (· intro w' hSw; (try dsimp only at hSw); (obtain ⟨s1, s2, s3, s4⟩ := hSw); have p0 := cell_of_row _ _ 0 _ _ _ s1; obtain ⟨c0, c1, c2, c3, c4, c5, c6, c7, c8, c9, c10, c11, c12, c13⟩ := cr14 s2; have g0 := cell_of_row _ _ 0 _ _ _ s3; (try simp only [hng]); go_simp; (try with_reducible rfl)); (try simp only [hng]); (try dsimp only [Act.put]); (try simp only [hns])
    change tailL _ _ _ _ _ _ _ _
    refine ⟨by kernel_rfl, ?_⟩
    simp only [List.drop_succ_cons, List.drop_zero]
    obtain ⟨z0, z1, z2⟩ := cr3 HXN.out
    have f0 := frozen_of_row _ _ 0 _ _ HXN.out
    have f1 := frozen_of_row _ _ 1 _ _ HXN.out
    have f2 := frozen_of_row _ _ 2 _ _ HXN.out
    go_wp2
    go_meet
    obtain ⟨q1, q2, q3⟩ := rk_set3 (x := .int .i64 r.z) (y := .int .i64 r.dz) (z := .int .i64 v.nz) HXN.out
    have hqx : q ≠ xb := by omega
    have hBW : Below w.heap.size w (((V2.setCell ⟨xb, 0, none⟩ (.int .i64 r.z)).setCell ⟨xb, 1, none⟩ (.int .i64 r.dz)).setCell ⟨xb, 2, none⟩ (.int .i64 v.nz)) := ((HB2.out.setCell (p := ⟨xb, 0, none⟩) (show w.heap.size ≤ xb by omega) _).setCell (p := ⟨xb, 1, none⟩) (show w.heap.size ≤ xb by omega) _).setCell (p := ⟨xb, 2, none⟩) (show w.heap.size ≤ xb by omega) _
    exact ⟨rfl, xb, rfl, hxb, Lib.hid ⟨q1, (q2 _ (by omega)).trans HP2.out, (q2 _ (by omega)).trans HZ2.out, (q2 _ hqx).trans HQ2.out, hBW⟩⟩
  case rest =>
    clear HP HZ HQ1 HG1 HG2 HB
    obtain ⟨rfl, xb, rfl, hxb, HX⟩ := hcut
    have HA := Lib.hid HX.out.1
    have HP := Lib.hid HX.out.2.1
    have HZ := Lib.hid HX.out.2.2.1
    have HQ := Lib.hid HX.out.2.2.2.1
    have HB := Lib.hid HX.out.2.2.2.2
    clear HX hk1 hwk hm1 hm2 hwr hnm hmz hk2 hkn
    have x0 := (cell_of_row _ _ 0 _ _ _ HA.out).trans (show _ = some (Value.int .i64 r.z) from rfl)
    have x1 := (cell_of_row _ _ 1 _ _ _ HA.out).trans (show _ = some (Value.int .i64 r.dz) from rfl)
    have x2 := (cell_of_row _ _ 2 _ _ _ HA.out).trans (show _ = some (Value.int .i64 v.nz) from rfl)
    by_cases h1 : 0 < r.dz
    · rw [if_pos h1] at HCU
      have HWH2 := Lib.hid (fun (W : World) => HWH.out W (by omega))
      clear HWH
      go_upto_region 3 with (fail)
      clear x0 x1 x2
      rename World => V3
      refine wp_region_any (by kernel_rfl) ?_
      change wpAny _ _ _ _ _ _ _ (World.drew V3)
      (have HP := Lib.hid (show PtAt w.heap.size ⟨pc, pl, ph⟩ V3.drew from HP.out); have HZ := Lib.hid (show PtAt (w.heap.size + 1) ⟨0, 0, 0⟩ V3.drew from HZ.out); have HQ := Lib.hid (show WkAt v r q V3.drew from HQ.out); have HA := Lib.hid (show AxAt xb (axF v r 2) V3.drew from HA.out); have HB := Lib.hid (show Below w.heap.size w V3.drew from HB.out.drew))
      generalize World.drew V3 = Vd at *
      refine any_of_tail 7 7 (fun w' => PtAt w.heap.size ⟨pc, pl, ph⟩ w' ∧ WkAt v r q w' ∧ AxAt xb (axF v r 2) w') (by kernel_rfl) ⟨HP.out, HQ.out, HA.out⟩ (fun hS => ?_)
      refine headH_take (i := 0) (v := ?_) rfl (by kernel_rfl) (fun _ _ _ h => h) (Or.inl ⟨by rfl, ?_⟩) (by assumption) ?_; rotate_left; (· intro w' hSw; (try dsimp only at hSw); (obtain ⟨s1, s2, s3⟩ := hSw); obtain ⟨p0, p1, p2⟩ := cr3 s1; obtain ⟨c0, c1, c2, c3, c4, c5, c6, c7, c8, c9, c10, c11, c12, c13⟩ := cr14 s2; obtain ⟨x0, x1, x2⟩ := cr3 s3; (try simp only [hng]); go_simp; (try with_reducible rfl)); (try simp only [hng]); (try dsimp only [Act.put]); (try simp only [hns])
      refine headH_take (i := 1) (v := ?_) rfl (by kernel_rfl) (fun _ _ _ h => h) (Or.inl ⟨by rfl, ?_⟩) (by assumption) ?_; rotate_left; (· intro w' hSw; (try dsimp only at hSw); (obtain ⟨s1, s2, s3⟩ := hSw); obtain ⟨p0, p1, p2⟩ := cr3 s1; obtain ⟨c0, c1, c2, c3, c4, c5, c6, c7, c8, c9, c10, c11, c12, c13⟩ := cr14 s2; obtain ⟨x0, x1, x2⟩ := cr3 s3; (try simp only [hng]); go_simp; (try with_reducible rfl)); (try simp only [hng]); (try dsimp only [Act.put]); (try simp only [hns])
      refine headH_take (i := 2) (v := ?_) rfl (by kernel_rfl) (fun _ _ _ h => h) (Or.inl ⟨by rfl, ?_⟩) (by assumption) ?_; rotate_left; (· intro w' hSw; (try dsimp only at hSw); (obtain ⟨s1, s2, s3⟩ := hSw); obtain ⟨p0, p1, p2⟩ := cr3 s1; obtain ⟨c0, c1, c2, c3, c4, c5, c6, c7, c8, c9, c10, c11, c12, c13⟩ := cr14 s2; obtain ⟨x0, x1, x2⟩ := cr3 s3; (try simp only [hng]); go_simp; (try with_reducible rfl)); (try simp only [hng]); (try dsimp only [Act.put]); (try simp only [hns])
      refine headH_take (i := 3) (v := ?_) rfl (by kernel_rfl) (fun _ _ _ h => h) (Or.inl ⟨by rfl, ?_⟩) (by assumption) ?_; rotate_left; (· intro w' hSw; (try dsimp only at hSw); (obtain ⟨s1, s2, s3⟩ := hSw); obtain ⟨p0, p1, p2⟩ := cr3 s1; obtain ⟨c0, c1, c2, c3, c4, c5, c6, c7, c8, c9, c10, c11, c12, c13⟩ := cr14 s2; obtain ⟨x0, x1, x2⟩ := cr3 s3; (try simp only [hng]); go_simp; (try with_reducible rfl)); (try simp only [hng]); (try dsimp only [Act.put]); (try simp only [hns])
      refine headH_take (i := 4) (v := ?_) rfl (by kernel_rfl) (fun _ _ _ h => h) (Or.inl ⟨by rfl, ?_⟩) (by assumption) ?_; rotate_left; (· intro w' hSw; (try dsimp only at hSw); (obtain ⟨s1, s2, s3⟩ := hSw); obtain ⟨p0, p1, p2⟩ := cr3 s1; obtain ⟨c0, c1, c2, c3, c4, c5, c6, c7, c8, c9, c10, c11, c12, c13⟩ := cr14 s2; obtain ⟨x0, x1, x2⟩ := cr3 s3; (try simp only [hng]); go_simp; (try with_reducible rfl)); (try simp only [hng]); (try dsimp only [Act.put]); (try simp only [hns])
      (refine headH_all (rs := [5]) (by kernel_rfl) (by simp) (by kernel_rfl) ?_; intro i0 hi0; simp only [List.mem_cons, List.not_mem_nil, or_false] at hi0; subst hi0; refine headH_op rfl (fun K hK => ?_); (try simp only [hng]); go_simp; refine (HWH2.out _).mono ?_; rintro e W2 ⟨rfl, hb⟩; dsimp only; have HPn := Lib.hid (HP.out.step hb); have HZn := Lib.hid (HZ.out.step hb); have HQn := Lib.hid (HQ.out.step hb); have HAn := Lib.hid (HA.out.step hb); have HBn := Lib.hid (HB.out.trans (hb.mono HB.out.size)); refine hK.out _ _ ⟨HPn.out, HQn.out, HAn.out⟩ (fun hS => ?_); clear hK K hb; have HP := HPn; have HZ := HZn; have HQ := HQn; have HA := HAn; have HB := HBn; (try simp only [hng]); (try dsimp only [Act.put]); (try simp only [hns]))
      refine headH_all (rs := [6]) (by kernel_rfl) (by simp) (by kernel_rfl) ?_; intro i0 hi0; simp only [List.mem_cons, List.not_mem_nil, or_false] at hi0; subst hi0
      refine headH_op rfl (fun K hK => ?_)
      (try simp only [hng])
      go_simp
      rw [show (if wh < ph then wh else ph) = min ph wh from by split <;> omega]
      refine hK.out _ _ ⟨HP.out, HQ.out, HA.out⟩ (fun hS => ?_)
      clear hK K
      (try simp only [hng]); (try dsimp only [Act.put]); (try simp only [hns])
      change tailL _ _ _ _ _ _ _ _
      refine ⟨by kernel_rfl, ?_⟩
      simp only [List.drop_succ_cons, List.drop_zero]
      generalize min ph wh = mn at *
      (obtain ⟨p0, p1, p2⟩ := cr3 HP.out; have f1 := frozen_of_row _ _ 1 _ _ HP.out; have f2 := frozen_of_row _ _ 2 _ _ HP.out; have HPs := Lib.hid (heap_setCell_same W2 w.heap.size 2 _ _ (.int .i64 mn) HP.out); have HZs := Lib.hid ((heap_setCell_other W2 ⟨w.heap.size, 2, none⟩ (w.heap.size + 1) (.int .i64 mn) (by show w.heap.size + 1 ≠ w.heap.size; omega)).trans HZ.out); have HBs := Lib.hid (HB.out.setCell (p := ⟨w.heap.size, 2, none⟩) (Nat.le_refl _) (.int .i64 mn)))
      go_upto_region 8 with (fail)
      generalize World.setCell W2 _ _ = Wn at *
      (obtain ⟨p0, p1, p2⟩ := cr3 HPs.out; obtain ⟨z0, z1, z2⟩ := cr3 HZs.out; have f0 := frozen_of_row _ _ 0 _ _ HZs.out; have f1 := frozen_of_row _ _ 1 _ _ HZs.out; have f2 := frozen_of_row _ _ 2 _ _ HZs.out; go_wp2; obtain ⟨q1, q2, q3⟩ := rk_set3 (x := .int .i64 pc) (y := .int .i64 pl) (z := .int .i64 mn) HZs.out; obtain ⟨r0, r1, r2⟩ := cr3 q1; have hBW := Lib.hid (((HBs.out.setCell (p := ⟨w.heap.size + 1, 0, none⟩) (show w.heap.size ≤ w.heap.size + 1 by omega) (.int .i64 pc)).setCell (p := ⟨w.heap.size + 1, 1, none⟩) (show w.heap.size ≤ w.heap.size + 1 by omega) (.int .i64 pl)).setCell (p := ⟨w.heap.size + 1, 2, none⟩) (show w.heap.size ≤ w.heap.size + 1 by omega) (.int .i64 mn)); clear q1 q2 q3; generalize World.setCell (World.setCell (World.setCell Wn _ _) _ _) _ _ = Wf at *; refine bodyPost_ret (v := .agg #[.int .i64 pc, .int .i64 pl, .int .i64 mn]) (by simp [results, Tryz.results101, go_sem, r0, r1, r2]) rfl ?_; exact ⟨by rw [HCU.out], hBW.out⟩)
    · rw [if_neg h1] at HCU
      by_cases h2 : r.dz < 0
      · rw [if_pos h2] at HCU
        have HWH2 := Lib.hid (fun (W : World) => HWH.out W (by omega))
        clear HWH
        go_upto_region 5 with (fail)
        clear x0 x1 x2
        rename World => V3
        refine wp_region_any (by kernel_rfl) ?_
        change wpAny _ _ _ _ _ _ _ (World.drew V3)
        (have HP := Lib.hid (show PtAt w.heap.size ⟨pc, pl, ph⟩ V3.drew from HP.out); have HZ := Lib.hid (show PtAt (w.heap.size + 1) ⟨0, 0, 0⟩ V3.drew from HZ.out); have HQ := Lib.hid (show WkAt v r q V3.drew from HQ.out); have HA := Lib.hid (show AxAt xb (axF v r 2) V3.drew from HA.out); have HB := Lib.hid (show Below w.heap.size w V3.drew from HB.out.drew))
        generalize World.drew V3 = Vd at *
        refine any_of_tail 7 7 (fun w' => PtAt w.heap.size ⟨pc, pl, ph⟩ w' ∧ WkAt v r q w' ∧ AxAt xb (axF v r 2) w') (by kernel_rfl) ⟨HP.out, HQ.out, HA.out⟩ (fun hS => ?_)
        refine headH_take (i := 0) (v := ?_) rfl (by kernel_rfl) (fun _ _ _ h => h) (Or.inl ⟨by rfl, ?_⟩) (by assumption) ?_; rotate_left; (· intro w' hSw; (try dsimp only at hSw); (obtain ⟨s1, s2, s3⟩ := hSw); obtain ⟨p0, p1, p2⟩ := cr3 s1; obtain ⟨c0, c1, c2, c3, c4, c5, c6, c7, c8, c9, c10, c11, c12, c13⟩ := cr14 s2; obtain ⟨x0, x1, x2⟩ := cr3 s3; (try simp only [hng]); go_simp; (try with_reducible rfl)); (try simp only [hng]); (try dsimp only [Act.put]); (try simp only [hns])
        refine headH_take (i := 1) (v := ?_) rfl (by kernel_rfl) (fun _ _ _ h => h) (Or.inl ⟨by rfl, ?_⟩) (by assumption) ?_; rotate_left; (· intro w' hSw; (try dsimp only at hSw); (obtain ⟨s1, s2, s3⟩ := hSw); obtain ⟨p0, p1, p2⟩ := cr3 s1; obtain ⟨c0, c1, c2, c3, c4, c5, c6, c7, c8, c9, c10, c11, c12, c13⟩ := cr14 s2; obtain ⟨x0, x1, x2⟩ := cr3 s3; (try simp only [hng]); go_simp; (try with_reducible rfl)); (try simp only [hng]); (try dsimp only [Act.put]); (try simp only [hns])
        refine headH_take (i := 2) (v := ?_) rfl (by kernel_rfl) (fun _ _ _ h => h) (Or.inl ⟨by rfl, ?_⟩) (by assumption) ?_; rotate_left; (· intro w' hSw; (try dsimp only at hSw); (obtain ⟨s1, s2, s3⟩ := hSw); obtain ⟨p0, p1, p2⟩ := cr3 s1; obtain ⟨c0, c1, c2, c3, c4, c5, c6, c7, c8, c9, c10, c11, c12, c13⟩ := cr14 s2; obtain ⟨x0, x1, x2⟩ := cr3 s3; (try simp only [hng]); go_simp; (try with_reducible rfl)); (try simp only [hng]); (try dsimp only [Act.put]); (try simp only [hns])
        refine headH_take (i := 3) (v := ?_) rfl (by kernel_rfl) (fun _ _ _ h => h) (Or.inl ⟨by rfl, ?_⟩) (by assumption) ?_; rotate_left; (· intro w' hSw; (try dsimp only at hSw); (obtain ⟨s1, s2, s3⟩ := hSw); obtain ⟨p0, p1, p2⟩ := cr3 s1; obtain ⟨c0, c1, c2, c3, c4, c5, c6, c7, c8, c9, c10, c11, c12, c13⟩ := cr14 s2; obtain ⟨x0, x1, x2⟩ := cr3 s3; (try simp only [hng]); go_simp; (try with_reducible rfl)); (try simp only [hng]); (try dsimp only [Act.put]); (try simp only [hns])
        refine headH_take (i := 4) (v := ?_) rfl (by kernel_rfl) (fun _ _ _ h => h) (Or.inl ⟨by rfl, ?_⟩) (by assumption) ?_; rotate_left; (· intro w' hSw; (try dsimp only at hSw); (obtain ⟨s1, s2, s3⟩ := hSw); obtain ⟨p0, p1, p2⟩ := cr3 s1; obtain ⟨c0, c1, c2, c3, c4, c5, c6, c7, c8, c9, c10, c11, c12, c13⟩ := cr14 s2; obtain ⟨x0, x1, x2⟩ := cr3 s3; (try simp only [hng]); go_simp; (try with_reducible rfl)); (try simp only [hng]); (try dsimp only [Act.put]); (try simp only [hns])
        (refine headH_all (rs := [5]) (by kernel_rfl) (by simp) (by kernel_rfl) ?_; intro i0 hi0; simp only [List.mem_cons, List.not_mem_nil, or_false] at hi0; subst hi0; refine headH_op rfl (fun K hK => ?_); (try simp only [hng]); go_simp; refine (HWH2.out _).mono ?_; rintro e W2 ⟨rfl, hb⟩; dsimp only; have HPn := Lib.hid (HP.out.step hb); have HZn := Lib.hid (HZ.out.step hb); have HQn := Lib.hid (HQ.out.step hb); have HAn := Lib.hid (HA.out.step hb); have HBn := Lib.hid (HB.out.trans (hb.mono HB.out.size)); refine hK.out _ _ ⟨HPn.out, HQn.out, HAn.out⟩ (fun hS => ?_); clear hK K hb; have HP := HPn; have HZ := HZn; have HQ := HQn; have HA := HAn; have HB := HBn; (try simp only [hng]); (try dsimp only [Act.put]); (try simp only [hns]))
        refine headH_all (rs := [6]) (by kernel_rfl) (by simp) (by kernel_rfl) ?_; intro i0 hi0; simp only [List.mem_cons, List.not_mem_nil, or_false] at hi0; subst hi0
        refine headH_op rfl (fun K hK => ?_)
        (try simp only [hng])
        go_simp
        rw [show (if pl < wh then wh else pl) = max pl wh from by split <;> omega]
        refine hK.out _ _ ⟨HP.out, HQ.out, HA.out⟩ (fun hS => ?_)
        clear hK K
        (try simp only [hng]); (try dsimp only [Act.put]); (try simp only [hns])
        change tailL _ _ _ _ _ _ _ _
        refine ⟨by kernel_rfl, ?_⟩
        simp only [List.drop_succ_cons, List.drop_zero]
        generalize max pl wh = mn at *
        (obtain ⟨p0, p1, p2⟩ := cr3 HP.out; have f1 := frozen_of_row _ _ 1 _ _ HP.out; have f2 := frozen_of_row _ _ 2 _ _ HP.out; have HPs := Lib.hid (heap_setCell_same W2 w.heap.size 1 _ _ (.int .i64 mn) HP.out); have HZs := Lib.hid ((heap_setCell_other W2 ⟨w.heap.size, 1, none⟩ (w.heap.size + 1) (.int .i64 mn) (by show w.heap.size + 1 ≠ w.heap.size; omega)).trans HZ.out); have HBs := Lib.hid (HB.out.setCell (p := ⟨w.heap.size, 1, none⟩) (Nat.le_refl _) (.int .i64 mn)))
        go_upto_region 8 with (fail)
        generalize World.setCell W2 _ _ = Wn at *
        (obtain ⟨p0, p1, p2⟩ := cr3 HPs.out; obtain ⟨z0, z1, z2⟩ := cr3 HZs.out; have f0 := frozen_of_row _ _ 0 _ _ HZs.out; have f1 := frozen_of_row _ _ 1 _ _ HZs.out; have f2 := frozen_of_row _ _ 2 _ _ HZs.out; go_wp2; obtain ⟨q1, q2, q3⟩ := rk_set3 (x := .int .i64 pc) (y := .int .i64 mn) (z := .int .i64 ph) HZs.out; obtain ⟨r0, r1, r2⟩ := cr3 q1; have hBW := Lib.hid (((HBs.out.setCell (p := ⟨w.heap.size + 1, 0, none⟩) (show w.heap.size ≤ w.heap.size + 1 by omega) (.int .i64 pc)).setCell (p := ⟨w.heap.size + 1, 1, none⟩) (show w.heap.size ≤ w.heap.size + 1 by omega) (.int .i64 mn)).setCell (p := ⟨w.heap.size + 1, 2, none⟩) (show w.heap.size ≤ w.heap.size + 1 by omega) (.int .i64 ph)); clear q1 q2 q3; generalize World.setCell (World.setCell (World.setCell Wn _ _) _ _) _ _ = Wf at *; refine bodyPost_ret (v := .agg #[.int .i64 pc, .int .i64 mn, .int .i64 ph]) (by simp [results, Tryz.results101, go_sem, r0, r1, r2]) rfl ?_; exact ⟨by rw [HCU.out], hBW.out⟩)
      · rw [if_neg h2] at HCU
        clear HWH
        have p1 := cell_of_row _ _ 1 _ _ _ HP.out
        by_cases h3 : gk ≤ r.z
        · rw [if_pos h3] at HCU
          rename World => W2
          (obtain ⟨p0, p1, p2⟩ := cr3 HP.out; have f1 := frozen_of_row _ _ 1 _ _ HP.out; have f2 := frozen_of_row _ _ 2 _ _ HP.out; have HPs := Lib.hid (heap_setCell_same W2 w.heap.size 2 _ _ (.int .i64 pl) HP.out); have HZs := Lib.hid ((heap_setCell_other W2 ⟨w.heap.size, 2, none⟩ (w.heap.size + 1) (.int .i64 pl) (by show w.heap.size + 1 ≠ w.heap.size; omega)).trans HZ.out); have HBs := Lib.hid (HB.out.setCell (p := ⟨w.heap.size, 2, none⟩) (Nat.le_refl _) (.int .i64 pl)))
          go_upto_region 8 with (fail)
          generalize World.setCell W2 _ _ = Wn at *
          (obtain ⟨p0, p1, p2⟩ := cr3 HPs.out; obtain ⟨z0, z1, z2⟩ := cr3 HZs.out; have f0 := frozen_of_row _ _ 0 _ _ HZs.out; have f1 := frozen_of_row _ _ 1 _ _ HZs.out; have f2 := frozen_of_row _ _ 2 _ _ HZs.out; go_wp2; obtain ⟨q1, q2, q3⟩ := rk_set3 (x := .int .i64 pc) (y := .int .i64 pl) (z := .int .i64 pl) HZs.out; obtain ⟨r0, r1, r2⟩ := cr3 q1; have hBW := Lib.hid (((HBs.out.setCell (p := ⟨w.heap.size + 1, 0, none⟩) (show w.heap.size ≤ w.heap.size + 1 by omega) (.int .i64 pc)).setCell (p := ⟨w.heap.size + 1, 1, none⟩) (show w.heap.size ≤ w.heap.size + 1 by omega) (.int .i64 pl)).setCell (p := ⟨w.heap.size + 1, 2, none⟩) (show w.heap.size ≤ w.heap.size + 1 by omega) (.int .i64 pl)); clear q1 q2 q3; generalize World.setCell (World.setCell (World.setCell Wn _ _) _ _) _ _ = Wf at *; refine bodyPost_ret (v := .agg #[.int .i64 pc, .int .i64 pl, .int .i64 pl]) (by simp [results, Tryz.results101, go_sem, r0, r1, r2]) rfl ?_; exact ⟨by rw [HCU.out], hBW.out⟩)
        · rw [if_neg h3] at HCU
          rename World => Wn
          have HPs := HP
          have HZs := HZ
          have HBs := HB
          go_upto_region 8 with (fail)
          (obtain ⟨p0, p1, p2⟩ := cr3 HPs.out; obtain ⟨z0, z1, z2⟩ := cr3 HZs.out; have f0 := frozen_of_row _ _ 0 _ _ HZs.out; have f1 := frozen_of_row _ _ 1 _ _ HZs.out; have f2 := frozen_of_row _ _ 2 _ _ HZs.out; go_wp2; obtain ⟨q1, q2, q3⟩ := rk_set3 (x := .int .i64 pc) (y := .int .i64 pl) (z := .int .i64 ph) HZs.out; obtain ⟨r0, r1, r2⟩ := cr3 q1; have hBW := Lib.hid (((HBs.out.setCell (p := ⟨w.heap.size + 1, 0, none⟩) (show w.heap.size ≤ w.heap.size + 1 by omega) (.int .i64 pc)).setCell (p := ⟨w.heap.size + 1, 1, none⟩) (show w.heap.size ≤ w.heap.size + 1 by omega) (.int .i64 pl)).setCell (p := ⟨w.heap.size + 1, 2, none⟩) (show w.heap.size ≤ w.heap.size + 1 by omega) (.int .i64 ph)); clear q1 q2 q3; generalize World.setCell (World.setCell (World.setCell Wn _ _) _ _) _ _ = Wf at *; refine bodyPost_ret (v := .agg #[.int .i64 pc, .int .i64 pl, .int .i64 ph]) (by simp [results, Tryz.results101, go_sem, r0, r1, r2]) rfl ?_; exact ⟨by rw [HCU.out], hBW.out⟩)
end Go.Proofs.YtkdopjkdokgipaaGreatDoor
namespace Go.Proofs.YtkdopjkdokgipaaGreatDoor
open Go.RowKit Go.Shelf
set_option linter.unusedVariables false
set_option linter.unusedSimpArgs false
/-- the loop's invariant: what holds of the caller's blocks -/
def LoopJ (R : Nat → Prop) (w0 : World) (N : Nat) (T : (Nat → Prop) → List Nat → World → Prop) (xs : List Nat) (O : Nat → Prop) (W : World) : Prop :=
  ∃ X, Mine R X O W ∧ T X xs W ∧ Below w0.heap.size w0 W ∧ (∀ b, O b → N ≤ b) ∧ (∀ b, X b → w0.heap.size ≤ b) ∧ N ≤ W.heap.size
theorem LoopJ.abide {R : Nat → Prop} {w0 : World} {N : Nat} (hN : w0.heap.size ≤ N) {T : (Nat → Prop) → List Nat → World → Prop} (hT : ∀ X xs W W', T X xs W → (∀ b, X b → W'.heap[b]? = W.heap[b]?) → T X xs W') : Abide (LoopJ R w0 N T) := by
  rintro xs O W O' W' ⟨X, hm, ht, hb, hO, hX, hz⟩ tn
  have hk : ∀ b, X b → W'.heap[b]? = W.heap[b]? := fun b hx => tn.block b (hm.lt hx) (hm.off b hx)
  refine ⟨X, ⟨fun b hx h1 => ?_, hm.rest, fun b hx => ?_⟩, hT _ _ _ _ ht hk, hb.trans (tn.below hb.size (fun b h1 => Nat.le_trans hN (hO b h1))), fun b h1 => ?_, hX, Nat.le_trans hz tn.size⟩
  · rcases (tn.own b).1 h1 with h2 | h2
    · exact hm.off b hx h2
    · have := hm.lt hx; omega
  · obtain ⟨o, h1, h2⟩ := hm.cells b hx
    exact ⟨o, (hk b hx).trans h1, h2⟩
  · rcases (tn.own b).1 h1 with h2 | h2
    · exact hO b h2
    · omega
theorem LoopJ.booked {R : Nat → Prop} {w0 : World} {N B : Nat} (hB : w0.heap.size ≤ B) {T : (Nat → Prop) → List Nat → World → Prop} (hT : ∀ X xs W W', T X xs W → (∀ b, X b → W'.heap[b]? = W.heap[b]?) → T X xs W') : Booked B (LoopJ R w0 N T) := by
  rintro xs O W l o o' ⟨X, hm, ht, hb, hO, hX, hz⟩ hl ho hc
  have hne : ∀ b, X b → b ≠ l := fun b hx e => by
    obtain ⟨u, h1, h2⟩ := hm.cells b hx
    rw [e, ho] at h1
    injection h1 with h1
    rw [← h1, hc] at h2
    cases h2
  have hk : ∀ b, X b → (W.putObj l o').heap[b]? = W.heap[b]? := fun b hx => World.putObj_heap_other (hne b hx)
  exact ⟨X, ⟨hm.off, hm.rest, fun b hx => by
    obtain ⟨u, h1, h2⟩ := hm.cells b hx
    exact ⟨u, (hk b hx).trans h1, h2⟩⟩, hT _ _ _ _ ht hk, hb.trans ⟨rfl, rfl, rfl, by simp, fun b hbl => World.putObj_heap_other (by omega)⟩, hO, hX, by simpa using hz⟩
/-- how a round's body may be left -/
def roundPostJ (X : Nat → Prop) (T : (Nat → Prop) → List Nat → World → Prop) (Tx : Code → (Nat → Prop) → List Nat → World → Prop) (xs : List Nat) (W : World) : Exit → Act → World → Prop
  | .normal, _, W' => ∃ X', BodyStep X W W' X' ∧ T X' xs W'
  | .ret, _, W' => ∃ X', BodyStep X W W' X' ∧ Tx .ret X' xs W'
  | .exit id, _, W' => ∃ X', BodyStep X W W' X' ∧ Tx (.exit id) X' xs W'
  | .goto t, _, W' => ∃ X', BodyStep X W W' X' ∧ Tx (.goto t) X' xs W'
  | .panic _, _, _ => False
  | .outgrown, _, _ => False
theorem wp_cross {g : Operand} {ps : Array Tmp} {assign body : Code} {Q : Exit → Act → World → Prop} {a : Act} {w : World} (v : VO) (r : RY) (hv : v.Ok) (hr : r.Ok) (q : Nat) (hq : WkAt v r q w)
    (w0 : World) (hw : Below w0.heap.size w0 w) (hg : a.eval g = .func (.func 121) #[] #[.pointer (some ⟨q, 0, none⟩)]) (hps : ps.size = 1)
    (X0 : Nat → Prop) (hX0 : ∀ b, X0 b → w0.heap.size ≤ b ∧ b ≠ q ∧ ∃ o, w.heap[b]? = some o ∧ o.isCells = true)
    (T : (Nat → Prop) → List Nat → World → Prop) (hT : ∀ X xs W W', T X xs W → (∀ b, X b → W'.heap[b]? = W.heap[b]?) → T X xs W')
    (h0 : T X0 [] w) (a1 : Nat → Act)
    (hassign : ∀ (l : Nat) (x : Nat) (W : World) (K : Act → World → Prop), K (a1 x) W → assign.wpIn (Fence.wide.inRound l) 4 Tryz.prog (Exit.then K (fun _ _ _ => False)) { tmps := (ps.zip (enX v r x)).foldl (fun t (p, v) => t.setIfInBounds p v) a.tmps, defers := [] } W)
    (hbody : ∀ (l : Nat) (pre : List Nat) (x : Nat) (O X : Nat → Prop) (W : World), w.heap.size ≤ W.heap.size → Mine (fun b => b = q) X O W → T X pre W → Below w0.heap.size w0 W → WkAt v r q W → pre = List.range x → (∀ j, j ≤ x → 0 ≤ atF v r j) → body.wpIn (Fence.wide.inRound l) 4 Tryz.prog (roundPostJ X T (fun _ _ _ _ => False) (pre ++ [x]) W) (a1 x) W)
    (hdone : ∀ (D m : Nat) (X : Nat → Prop) (W : World), w.heap.size ≤ D → D < W.heap.size → ¬ X D → IsM v r m → T X (List.range (m + 1)) W → Below w0.heap.size w0 W → WkAt v r q W → W.heap[D]? = some (.deferred (some [])) → Q .normal { a with defers := { target := .collected D, args := #[] } :: a.defers } W) :
    (Code.rangeFunc g ps assign body).wp Tryz.prog Q a w := by
  refine (wpIn_wide (n := 6)).1 ?_
  have hN : w0.heap.size ≤ w.heap.size := hw.size
  have hR : ∀ b, b = q → b < w.heap.size := fun b h => by rw [h]; exact hq.lt
  let I : List Nat → (Nat → Prop) → World → Prop := fun xs O W => LoopJ (fun b => b = q) w0 w.heap.size T xs O W ∧ (((∀ b, b = q → W.heap[b]? = w.heap[b]?) ∧ w.heap.size ≤ W.heap.size) ∧ xs = List.range xs.length)
  let Ix : Code → List Nat → (Nat → Prop) → World → Prop := fun c xs O W => False
  have hRa : ∀ O W O' W', (∀ b, O b → w.heap.size ≤ b) → ((∀ b, b = q → W.heap[b]? = w.heap[b]?) ∧ w.heap.size ≤ W.heap.size) → Turn O W O' W' → (∀ b, b = q → W'.heap[b]? = w.heap[b]?) ∧ w.heap.size ≤ W'.heap.size := fun O W O' W' hO h tn =>
    ⟨fun b hb => (tn.block b (by have := hR b hb; omega) (fun h1 => by have := hO b h1; have := hR b hb; omega)).trans (h.1 b hb), Nat.le_trans h.2 tn.size⟩
  refine wpIn_range_own (P := Tryz.prog) (g := g) hg (enters_of Tryz.func121 (by kernel_rfl) rfl) (cross_seq v r hv hr q w hq) hR (Below.refl _ _) (fun x => by rw [hps]; rfl)
    (fun _ _ _ _ _ _ _ => trivial) I Ix ?hI (fun c => fun _ _ _ _ _ h _ => h) ?hIb (fun c => fun _ _ _ _ _ _ h _ _ _ => h) ?h0 (fun x a' O W => a' = a1 x) (fun _ _ _ _ _ _ h _ => h) ?hassign ?hbody ?hdone ?hstop
  case hI =>
    rintro xs O W O' W' ⟨h1, h2, hG⟩ tn
    obtain ⟨X, hm, ht, hb, hO, hX, hz⟩ := id h1
    exact ⟨LoopJ.abide hN hT _ _ _ _ _ h1 tn, hRa _ _ _ _ hO h2 tn, hG⟩
  case hIb =>
    rintro xs O W l o o' ⟨h1, h2, hG⟩ hl ho hc
    exact ⟨LoopJ.booked hw.size hT _ _ _ _ _ _ h1 hl ho hc, ⟨fun b hb => (World.putObj_heap_other (by have := hR b hb; omega)).trans (h2.1 b hb), by simpa using h2.2⟩, hG⟩
  case h0 =>
    intro W hb
    have hk : ∀ b, X0 b → W.heap[b]? = w.heap[b]? := fun b hx => by
      obtain ⟨_, _, o, h1, _⟩ := hX0 b hx
      exact hb.block b (bl h1)
    exact ⟨⟨X0, ⟨fun b _ h => h, fun b hx => (hX0 b hx).2.1, fun b hx => by
      obtain ⟨_, _, o, h1, h2⟩ := hX0 b hx
      exact ⟨o, (hk b hx).trans h1, h2⟩⟩, hT _ _ _ _ h0 hk, hw.trans (hb.mono hw.size), fun b h => h.elim, fun b hx => (hX0 b hx).1, hb.size⟩, ⟨fun b h => hb.block b (hR b h), hb.size⟩, rfl⟩
  case hassign =>
    rintro l pre x O W K hz hO hI hsh hK
    exact hassign l x W K (hK _ _ (KeepsFrom.refl _ _) (Kept.refl _ _) hI rfl hsh)
  case hbody =>
    rintro l pre x a' O W hl hz hO ⟨⟨X, hm, ht, hb, hOn, hX, hzz⟩, ⟨hrr, hww⟩, hG⟩ rfl hsh hnx
    have hOl : ∀ b, O b → b < W.heap.size := fun b h => (hO b h).2
    have hRl : ∀ b, b = q → b < W.heap.size := fun b h => by have := hR b h; omega
    have hX' : ∀ W' X', BodyStep X W W' X' → ∀ b, X' b → w0.heap.size ≤ b := fun W' X' st b hx => (st.new b hx).elim (hX b) (fun h => by have := hb.size; omega)
    refine wpIn_mono (hbody l pre x O X W hww hm ht hb ((hrr q rfl).trans hq) hnx.1 hnx.2) ?_
    intro e a' W' hp
    cases e with
    | normal =>
      obtain ⟨X', st, h1⟩ := hp
      have mn := st.mine hm hOl hRl
      exact ⟨st.keepsFrom hm, st.kept hm hOl hRl, ⟨X', mn, h1, st.bel hX hb, hOn, hX' _ _ st, Nat.le_trans hzz st.size⟩, ⟨fun b h => (st.block b (hRl b h) (fun hx => hm.rest b hx h)).trans (hrr b h), Nat.le_trans hww st.size⟩, by rw [hnx.1, ← List.range_succ]; simp⟩
    | ret => obtain ⟨X', st, h1⟩ := hp; exact h1.elim
    | exit id => obtain ⟨X', st, h1⟩ := hp; exact h1.elim
    | goto t => obtain ⟨X', st, h1⟩ := hp; exact h1.elim
    | panic ch => exact hp.elim
    | outgrown => exact hp.elim
  case hdone =>
    rintro D xs O W hD hDO ⟨m, hM, rfl⟩ ⟨⟨X, hm, ht, hb, hOn, hX, hzz⟩, ⟨hrr, hww⟩, hG⟩ hDD
    have hlt : D < W.heap.size := (bl hDD)
    refine hdone D m X W hD hlt (fun hx => ?_) hM ht hb ((hrr q rfl).trans hq) hDD
    obtain ⟨u, h1, h2⟩ := hm.cells D hx
    rw [hDD] at h1
    injection h1 with h1
    rw [← h1] at h2
    cases h2
  case hstop =>
    rintro D c pre O W hD hDO hxs h hDD
    exact h.elim
end Go.Proofs.YtkdopjkdokgipaaGreatDoor
namespace Go.Proofs.YtkdopjkdokgipaaGreatDoor
open Go.RowKit Go.Shelf
set_option linter.unusedVariables false
set_option linter.unusedSimpArgs false
attribute [local go_sem] Oper.semAt_some
theorem rk_append_lies {F : Fence} {n : Nat} {P : Program} (w : World) {ops : Array Oper} {rest : List Oper} {o : Oper} {a : Act} {Q : Exit → Act → World → Prop}
    (hg : o.guard = none) (s x : Operand) (t : TypeId) (hop : o.op = Op.call { callee := Callee.builtin Builtin.append, args := #[s, x], argTypes := #[t, t] })
    (base : Nat) (e : TypeId) (i : TypeInfo) (z : Value) (size bytes : Nat) (h1 : P.underlying t = some (.slice e)) (h2 : P.info? e = some i) (h3 : i.zero = some z) (h4 : i.size = size) (h5 : i.bytes = bytes) (h6 : z.cells.size = size) (h7 : 0 < size)
    (v : Value) (k : Nat) (xs : List Value) (hs : a.eval s = v) (hown : w.ownsRow base e size v k xs) (ad : Addr) (m c : Nat) (news : List Value) (hx : a.eval x = .slice (some ad) m c) (hn : news.length = m * size)
    (hc : ∀ j u, news[j]? = some u → w.cell? (ad.add j) = some u) (h1c : ∀ u ∈ news, u.oneCell' = true) (hm : 0 < m) (b1 : k + m ≤ maxLen) (b2 : (k + m) * bytes ≤ 140737488355328) (b3 : base ≤ w.heap.size) (H : Nat) (hH : w.heap.size = H)
    (hK : ∀ g cap w', w'.ownsRow base e size (.slice (some ⟨g, 0, none⟩) (k + m) cap) (k + m) (xs ++ news) → w.grownBy w' v.ownBlock → (v.ownBlock = some g ∨ g = H) → g < w'.heap.size → wpListIn F n P ops Q rest (a.put o.dst (.slice (some ⟨g, 0, none⟩) (k + m) cap)) w') :
    wpListIn F n P ops Q (o :: rest) a w := by
  refine wpListIn_plain hg fun K hK' => ?_
  obtain ⟨g, cap, w', hrun, r1, r2, r3, r4⟩ := run_append_lies (P := P) w t o.type base e i z size bytes h1 h2 h3 h4 h5 h6 h7 v k xs hown ad m c news hn hc h1c hm b1 b2 b3 H hH
  unfold Oper.wpIn
  refine ⟨?_, ?_⟩
  · simp [Oper.about, hop, resolve, Target.leads, Sem.run_pure]
  · rw [Oper.semAt_plain F _ _ (by rw [hop]; intro c hc'; cases hc')]
    simp [execOp, hop, resolve, invoke, builtin, hs, hx, hrun, Result.andThen]
    exact hK' _ _ (hK g cap w' r1 r2 r3 r4)
def PT.cells (p : PT) : List Value := [.int .i64 p.cell, .int .i64 p.lo, .int .i64 p.hi]
def ptC : List PT → List Value
  | [] => []
  | x :: t => x.cells ++ ptC t
theorem ptC_append : ∀ (a b : List PT), ptC (a ++ b) = ptC a ++ ptC b
  | [], b => rfl
  | h :: t, b => by rw [List.cons_append, ptC, ptC, ptC_append t b, List.append_assoc]
theorem ptC_one (x : PT) : ptC [x] = x.cells := by simp [ptC]
theorem ptC_get : ∀ (l : List PT) (i s : Nat) (z : PT), i < l.length → s < 3 → (ptC l)[i * 3 + s]? = (l.getD i z).cells[s]?
  | [], i, s, z, h, _ => by simp at h
  | h :: t, 0, s, z, _, hr => by
    rw [ptC, List.getElem?_append_left (by simp [PT.cells]; omega)]
    simp
  | h :: t, i + 1, s, z, hi, hr => by
    have e : (i + 1) * 3 + s - 3 = i * 3 + s := by omega
    rw [ptC, List.getElem?_append_right (by simp [PT.cells]; omega)]
    have : h.cells.length = 3 := rfl
    rw [this, e, ptC_get t i s z (by simpa using hi) hr]
    simp
theorem info_part : (Tryz.prog.info? 161).map (fun i => (i.zero, i.size, i.bytes)) = some (some (.agg #[.int .i64 0, .int .i64 0, .int .i64 0]), 3, 24) := by kernel_rfl
theorem pt_one {a b c : Int} : ∀ u ∈ [Value.int .i64 a, .int .i64 b, .int .i64 c], u.oneCell' = true := by
  intro u hu
  simp at hu
  rcases hu with rfl | rfl | rfl <;> rfl
def lastF (v : VO) (r : RY) : Nat → Int
  | 0 => -1
  | k + 1 => atF v r k
theorem one_len (v : VO) (r : RY) (g : Nat → Int) (p q : Int) : (oneF v r g p q).length ≤ 1 := by
  unfold oneF
  split
  · simp
  · split <;> simp
theorem prN_len (v : VO) (r : RY) (g : Nat → Int) : ∀ k, (prN v r g k).length ≤ k
  | 0 => by simp [prN]
  | 1 => by simp [prN]
  | k + 2 => by
    have h1 := prN_len v r g (k + 1)
    have h2 := one_len v r g (atF v r k) (atF v r (k + 1))
    rw [prN, List.length_append]
    omega
/-- the loop's state -/
structure PaT (v : VO) (r : RY) (g : Nat → Int) (wb kb ob lb : Nat) (cb cc : Nat) (X : Nat → Prop) (xs : List Nat) (W : World) : Prop where
  xw : X wb
  xk : X kb
  xo : X ob
  xl : X lb
  wk : WkAt v r wb W
  kx : W.heap[kb]? = some (.cells #[.slice (some ⟨cb, 0, none⟩) 1 cc] 175)
  last : W.heap[lb]? = some (.cells #[.int .i64 (lastF v r xs.length)] 3)
  row : ∃ vv, W.heap[ob]? = some (.cells #[vv] 147) ∧ W.ownsRow (lb + 1) 161 3 vv (prN v r g xs.length).length (ptC (prN v r g xs.length)) ∧ ∀ b, vv.ownBlock = some b → X b
theorem PaT.keep {v : VO} {r : RY} {g : Nat → Int} {wb kb ob lb cb cc : Nat} {X : Nat → Prop} {xs : List Nat} {W W' : World} (h : PaT v r g wb kb ob lb cb cc X xs W) (hk : ∀ b, X b → W'.heap[b]? = W.heap[b]?) : PaT v r g wb kb ob lb cb cc X xs W' := by
  obtain ⟨vv, h1, h2, h3⟩ := h.row
  exact ⟨h.xw, h.xk, h.xo, h.xl, (hk _ h.xw).trans h.wk, (hk _ h.xk).trans h.kx, (hk _ h.xl).trans h.last, vv, (hk _ h.xo).trans h1, own_keep h2 (fun b hb => hk b (h3 b hb)), h3⟩
section
variable {v : VO} {r : RY} {g : Nat → Int} {q0 cb cc y : Nat} {R X O : Nat → Prop} {pre : List Nat} {W W2 : World}
/-- nothing is added -/
theorem pa_skip (hT : PaT v r g q0 (q0 + 1) (q0 + 1 + 1) (q0 + 1 + 1 + 1) cb cc X pre W) (hm : Mine R X O W) (hl : pre.length = y + 1) (hone : prN v r g (y + 2) = prN v r g (y + 1)) (hb : Below W.heap.size W W2) :
    ∃ X', BodyStep X W (W2.setCell ⟨q0 + 1 + 1 + 1, 0, none⟩ (.int .i64 (atF v r (y + 1)))) X' ∧ PaT v r g q0 (q0 + 1) (q0 + 1 + 1) (q0 + 1 + 1 + 1) cb cc X' (pre ++ [y + 1]) (W2.setCell ⟨q0 + 1 + 1 + 1, 0, none⟩ (.int .i64 (atF v r (y + 1)))) := by
  have hn : (pre ++ [y + 1]).length = y + 2 := by rw [List.length_append, hl]; rfl
  refine ⟨X, (BodyStep.below hm hb).setCell hT.xl _, ?_⟩
  obtain ⟨vv, r1, r2, r3⟩ := hT.row
  rw [hl] at r2
  have hk : ∀ b, X b → W2.heap[b]? = W.heap[b]? := fun b hx => hb.block b (hm.lt hx)
  have hot : ∀ k, k ≠ q0 + 1 + 1 + 1 → (W2.setCell ⟨q0 + 1 + 1 + 1, 0, none⟩ (.int .i64 (atF v r (y + 1)))).heap[k]? = W2.heap[k]? := fun k hk => heap_setCell_other W2 ⟨q0 + 1 + 1 + 1, 0, none⟩ k _ hk
  refine ⟨hT.xw, hT.xk, hT.xo, hT.xl, (hot _ (by omega)).trans ((hk _ hT.xw).trans hT.wk), (hot _ (by omega)).trans ((hk _ hT.xk).trans hT.kx), ?_, vv, (hot _ (by omega)).trans ((hk _ hT.xo).trans r1), ?_, r3⟩
  · rw [hn]
    exact heap_setCell_same W2 (q0 + 1 + 1 + 1) 0 _ _ _ ((hk _ hT.xl).trans hT.last)
  · rw [hn, hone]
    exact own_keep r2 (fun b hb => (hot b (by have := own_block_le r2 hb; omega)).trans (hk b (r3 b hb)))
/-- a part is added -/
theorem pa_add {vv : Value} {p : PT} {W5 : World} {g1 cp : Nat} {o : Obj} (hT : PaT v r g q0 (q0 + 1) (q0 + 1 + 1) (q0 + 1 + 1 + 1) cb cc X pre W) (hm : Mine R X O W) (hl : pre.length = y + 1) (hone : prN v r g (y + 2) = prN v r g (y + 1) ++ [p]) (hb : Below W.heap.size W W2)
    (r1 : W.heap[q0 + 1 + 1]? = some (.cells #[vv] 147)) (r2 : W.ownsRow (q0 + 1 + 1 + 1 + 1) 161 3 vv (prN v r g (y + 1)).length (ptC (prN v r g (y + 1)))) (r3 : ∀ b, vv.ownBlock = some b → X b)
    (ho : W5.ownsRow (q0 + 1 + 1 + 1 + 1) 161 3 (.slice (some ⟨g1, 0, none⟩) ((prN v r g (y + 1)).length + 1) cp) ((prN v r g (y + 1)).length + 1) (ptC (prN v r g (y + 1)) ++ p.cells)) (hg : (W2.alloc o).grownBy W5 vv.ownBlock) (hat : vv.ownBlock = some g1 ∨ g1 = (W2.alloc o).heap.size) (hlt : g1 < W5.heap.size) :
    ∃ X', BodyStep X W ((W5.setCell ⟨q0 + 1 + 1, 0, none⟩ (.slice (some ⟨g1, 0, none⟩) ((prN v r g (y + 1)).length + 1) cp)).setCell ⟨q0 + 1 + 1 + 1, 0, none⟩ (.int .i64 (atF v r (y + 1)))) X' ∧ PaT v r g q0 (q0 + 1) (q0 + 1 + 1) (q0 + 1 + 1 + 1) cb cc X' (pre ++ [y + 1]) ((W5.setCell ⟨q0 + 1 + 1, 0, none⟩ (.slice (some ⟨g1, 0, none⟩) ((prN v r g (y + 1)).length + 1) cp)).setCell ⟨q0 + 1 + 1 + 1, 0, none⟩ (.int .i64 (atF v r (y + 1)))) := by
  have hn : (pre ++ [y + 1]).length = y + 2 := by rw [List.length_append, hl]; rfl
  have hz2 := hb.size
  have hz3 : (W2.alloc o).heap.size = W2.heap.size + 1 := by simp
  have hz5 := hg.size
  have hmn : ∀ b, vv.ownBlock = some b → q0 + 1 + 1 + 1 < b := fun b hb => by have := own_block_le r2 hb; omega
  have hk5 : ∀ b, b < W.heap.size → vv.ownBlock ≠ some b → W5.heap[b]? = W.heap[b]? := fun b h1 h2 => (hg.block b (by omega) (Ne.symm h2)).trans ((Below.heap_alloc W2 o b (by omega)).trans (hb.block b h1))
  have hne : ∀ b, b ≤ q0 + 1 + 1 + 1 → vv.ownBlock ≠ some b := fun b h1 h2 => by have := hmn b h2; omega
  have hgq : q0 + 1 + 1 + 1 < g1 := by
    rcases hat with h | h
    · exact hmn _ h
    · have := hm.lt hT.xl; omega
  generalize hW6 : (W5.setCell ⟨q0 + 1 + 1, 0, none⟩ (.slice (some ⟨g1, 0, none⟩) ((prN v r g (y + 1)).length + 1) cp)).setCell ⟨q0 + 1 + 1 + 1, 0, none⟩ (.int .i64 (atF v r (y + 1))) = W6
  have hot : ∀ k, k ≠ q0 + 1 + 1 → k ≠ q0 + 1 + 1 + 1 → W6.heap[k]? = W5.heap[k]? := fun k h1 h2 => by
    rw [← hW6]
    exact (heap_setCell_other _ ⟨q0 + 1 + 1 + 1, 0, none⟩ k _ h2).trans (heap_setCell_other W5 ⟨q0 + 1 + 1, 0, none⟩ k _ h1)
  have hsz : W6.heap.size = W5.heap.size := by rw [← hW6]; simp
  have k1 : W6.heap[q0 + 1 + 1]? = some (.cells #[.slice (some ⟨g1, 0, none⟩) ((prN v r g (y + 1)).length + 1) cp] 147) := by
    rw [← hW6]
    refine (heap_setCell_other _ ⟨q0 + 1 + 1 + 1, 0, none⟩ (q0 + 1 + 1) _ (by show q0 + 1 + 1 ≠ q0 + 1 + 1 + 1; omega)).trans ?_
    exact heap_setCell_same W5 (q0 + 1 + 1) 0 _ _ _ ((hk5 _ (hm.lt hT.xo) (hne _ (by omega))).trans r1)
  have k2 : W6.heap[q0 + 1 + 1 + 1]? = some (.cells #[.int .i64 (atF v r (y + 1))] 3) := by
    rw [← hW6]
    refine heap_setCell_same _ (q0 + 1 + 1 + 1) 0 _ _ _ ((heap_setCell_other W5 ⟨q0 + 1 + 1, 0, none⟩ (q0 + 1 + 1 + 1) _ (by show q0 + 1 + 1 + 1 ≠ q0 + 1 + 1; omega)).trans ((hk5 _ (hm.lt hT.xl) (hne _ (by omega))).trans hT.last))
  have hrow : W6.ownsRow (q0 + 1 + 1 + 1 + 1) 161 3 (.slice (some ⟨g1, 0, none⟩) ((prN v r g (y + 1)).length + 1) cp) ((prN v r g (y + 1)).length + 1) (ptC (prN v r g (y + 1)) ++ p.cells) := own_keep ho (fun b hb => by
    have : g1 = b := by simpa [Value.ownBlock] using hb
    exact hot b (by omega) (by omega))
  have hgc : ∃ u, W6.heap[g1]? = some u ∧ u.isCells = true := by
    rcases hrow.2 with ⟨h1, _⟩ | ⟨g2, cap2, cur, h1, _, h3, _⟩
    · cases h1
    · injection h1 with h1
      injection h1 with h1
      injection h1 with h1
      subst h1
      exact ⟨_, h3, rfl⟩
  have hos : W6.os = W5.os ∧ W6.tape = W5.tape ∧ W6.output = W5.output := by rw [← hW6]; exact ⟨rfl, rfl, rfl⟩
  refine ⟨fun b => (X b ∧ vv.ownBlock ≠ some b) ∨ b = g1, ⟨hos.1.trans (hg.os.trans hb.os), hos.2.1.trans (hg.tape.trans hb.tape), hos.2.2.trans (hg.output.trans hb.output), by omega, fun b h1 h2 => ?_, fun b h1 => ?_, fun b h1 => ?_⟩, ?_⟩
  · refine (hot b (fun e => h2 (by rw [e]; exact hT.xo)) (fun e => h2 (by rw [e]; exact hT.xl))).trans (hk5 b h1 (fun e => h2 (r3 b e)))
  · rcases h1 with h1 | h1
    · exact .inl h1.1
    · rcases hat with h | h
      · exact .inl (by rw [h1]; exact r3 _ h)
      · exact .inr (by omega)
  · rcases h1 with ⟨h1, h2⟩ | h1
    · by_cases e1 : b = q0 + 1 + 1
      · exact ⟨_, by rw [e1]; exact k1, rfl⟩
      · by_cases e2 : b = q0 + 1 + 1 + 1
        · exact ⟨_, by rw [e2]; exact k2, rfl⟩
        · obtain ⟨u, h3, h4⟩ := hm.cells b h1
          exact ⟨u, (hot b e1 e2).trans ((hk5 b (hm.lt h1) h2).trans h3), h4⟩
    · rw [h1]; exact hgc
  · refine ⟨.inl ⟨hT.xw, hne _ (by omega)⟩, .inl ⟨hT.xk, hne _ (by omega)⟩, .inl ⟨hT.xo, hne _ (by omega)⟩, .inl ⟨hT.xl, hne _ (by omega)⟩, (hot _ (by omega) (by omega)).trans ((hk5 _ (hm.lt hT.xw) (hne _ (by omega))).trans hT.wk), (hot _ (by omega) (by omega)).trans ((hk5 _ (hm.lt hT.xk) (hne _ (by omega))).trans hT.kx), by rw [hn]; exact k2, _, k1, ?_, fun b hb => .inr ?_⟩
    · rw [hn, hone, ptC_append, ptC_one, List.length_append, List.length_singleton]
      exact hrow
    · have : g1 = b := by simpa [Value.ownBlock] using hb
      exact this.symm
end
theorem rk_four (W : World) (o1 o2 o3 o4 : Obj) : Below W.heap.size W ((((W.alloc o1).alloc o2).alloc o3).alloc o4) ∧ ((((W.alloc o1).alloc o2).alloc o3).alloc o4).heap.size = W.heap.size + 1 + 1 + 1 + 1 ∧ ((((W.alloc o1).alloc o2).alloc o3).alloc o4).heap[W.heap.size]? = some o1 ∧ ((((W.alloc o1).alloc o2).alloc o3).alloc o4).heap[W.heap.size + 1]? = some o2 ∧ ((((W.alloc o1).alloc o2).alloc o3).alloc o4).heap[W.heap.size + 1 + 1]? = some o3 ∧ ((((W.alloc o1).alloc o2).alloc o3).alloc o4).heap[W.heap.size + 1 + 1 + 1]? = some o4 := four_allocs W o1 o2 o3 o4
set_option maxRecDepth 100000 in
set_option maxHeartbeats 4000000 in
theorem rkparts_any (v : VO) (r : RY) (hv : v.Ok) (hr : r.Ok) (g : Nat → Int) (gn gb qb cb cc : Nat) (w : World) (hq : WkAt v r qb w) (hg : GrAt v g gn gb w) (hc : w.cell? ⟨cb, 0, none⟩ = some (.func (.func 101) #[] #[.pointer (some ⟨gb, 0, none⟩), .pointer (some ⟨qb, 0, none⟩)])) (hcb : cb < w.heap.size) :
    Calls Tryz.prog 76 #[wkVal v r, .slice (some ⟨cb, 0, none⟩) 1 cc] w fun e w' => ∃ m pa pc, IsM v r m ∧ e = .returned (.slice pa (prN v r g (m + 1)).length pc) ∧ w'.ownsRow w.heap.size 161 3 (.slice pa (prN v r g (m + 1)).length pc) (prN v r g (m + 1)).length (ptC (prN v r g (m + 1))) ∧ Below w.heap.size w w' := by
  have HCR := Lib.hid (fun (W : World) => crossings_any v r W)
  unfold wkVal at HCR
  unfold wkVal
  refine (callsIn_wide (n := 6)).1 ?_; refine callsIn_of_wp_marks Tryz.func76 rfl trivial ?_ rfl; simp only [Tryz.ntmps76, List.size_toArray, List.length_cons, List.length_nil, Nat.reduceAdd, Nat.reduceSub, Array.replicate_succ, Array.replicate_zero, List.push_toArray, List.append_toArray, List.nil_append, List.cons_append]; refine wpIn_wide.2 ?_
  go_upto_region 3 with (fail)
  obtain ⟨hVb, hVz, e1, e2, e3, e4⟩ := rk_four w (.cells #[.int .i64 v.nx, .int .i64 v.ny, .int .i64 v.nz, .int .i64 v.size, .int .i64 r.x, .int .i64 r.dx, .int .i64 v.nx, .int .i64 r.y, .int .i64 r.dy, .int .i64 v.ny, .int .i64 r.z, .int .i64 r.dz, .int .i64 v.nz, .int .i64 (tkF r : Int)] 96) (.cells #[.slice (some ⟨cb, 0, none⟩) 1 cc] 175) (.cells #[.slice none 0 0] 147) (.cells #[.int .i64 (-1)] 3)
  have HQ := Lib.hid (show WkAt v r w.heap.size ((((w.alloc (.cells #[.int .i64 v.nx, .int .i64 v.ny, .int .i64 v.nz, .int .i64 v.size, .int .i64 r.x, .int .i64 r.dx, .int .i64 v.nx, .int .i64 r.y, .int .i64 r.dy, .int .i64 v.ny, .int .i64 r.z, .int .i64 r.dz, .int .i64 v.nz, .int .i64 (tkF r : Int)] 96)).alloc (.cells #[.slice (some ⟨cb, 0, none⟩) 1 cc] 175)).alloc (.cells #[.slice none 0 0] 147)).alloc (.cells #[.int .i64 (-1)] 3)) from e1)
  have HB := Lib.hid hVb
  have HE2 := Lib.hid e2
  have HE3 := Lib.hid e3
  have HE4 := Lib.hid e4
  have HVZ := Lib.hid hVz
  clear hVb hVz e1 e2 e3 e4
  generalize World.alloc (World.alloc (World.alloc (World.alloc w _) _) _) _ = V at *
  obtain ⟨c0, c1, c2, c3, c4, c5, c6, c7, c8, c9, c10, c11, c12, c13⟩ := cr14 HQ.out
  go_wp2_with (go_at_call 99; refine (HCR.out _).mono ?_; rintro e w2 ⟨rfl, hwk2, hb2⟩)
  clear c0 c1 c2 c3 c4 c5 c6 c7 c8 c9 c10 c11 c12 c13
  have hb3 := HB.out.trans (hb2.mono HB.out.size)
  have hz2 := hb2.size
  have k1 := (hb2.block (w.heap.size) (by have := HVZ.out; omega)).trans HQ.out
  have k2 := (hb2.block (w.heap.size + 1) (by have := HVZ.out; omega)).trans HE2.out
  have k3 := (hb2.block (w.heap.size + 1 + 1) (by have := HVZ.out; omega)).trans HE3.out
  have k4 := (hb2.block (w.heap.size + 1 + 1 + 1) (by have := HVZ.out; omega)).trans HE4.out
  have hVq := hwk2.lt
  refine wp_cross v r hv hr V.heap.size hwk2 w hb3 rfl rfl (fun b => b = w.heap.size ∨ b = w.heap.size + 1 ∨ b = w.heap.size + 1 + 1 ∨ b = w.heap.size + 1 + 1 + 1) ?hX0 (PaT v r g w.heap.size (w.heap.size + 1) (w.heap.size + 1 + 1) (w.heap.size + 1 + 1 + 1) cb cc) (fun X xs W W' h hk => h.keep hk) ?h0 (fun x => ⟨#[Value.agg #[.int .i64 v.nx, .int .i64 v.ny, .int .i64 v.nz, .int .i64 v.size, .int .i64 r.x, .int .i64 r.dx, .int .i64 v.nx, .int .i64 r.y, .int .i64 r.dy, .int .i64 v.ny, .int .i64 r.z, .int .i64 r.dz, .int .i64 v.nz, .int .i64 (tkF r : Int)], .slice (some ⟨cb, 0, none⟩) 1 cc, .pointer (some ⟨w.heap.size, 0, none⟩), .pointer (some ⟨w.heap.size + 1, 0, none⟩), .slice none 0 0, .pointer (some ⟨w.heap.size + 1 + 1, 0, none⟩), .pointer (some ⟨w.heap.size + 1 + 1 + 1, 0, none⟩), .int .i64 (atF v r x), undef, undef, undef, undef, Value.agg #[.int .i64 v.nx, .int .i64 v.ny, .int .i64 v.nz, .int .i64 v.size, .int .i64 r.x, .int .i64 r.dx, .int .i64 v.nx, .int .i64 r.y, .int .i64 r.dy, .int .i64 v.ny, .int .i64 r.z, .int .i64 r.dz, .int .i64 v.nz, .int .i64 (tkF r : Int)], .func (.func 121) #[] #[.pointer (some ⟨V.heap.size, 0, none⟩)], .int .i64 (atF v r x), undef, undef, undef, undef, undef, undef, undef, undef, undef, undef, undef, undef, undef, undef, undef, undef, undef, undef, undef, undef, undef, undef, undef, undef, undef, undef, undef, undef, undef, undef, undef, undef, undef], []⟩) ?hassign ?hbody ?hdone
  case hX0 =>
    rintro b (rfl | rfl | rfl | rfl)
    · exact ⟨by omega, by have := HVZ.out; omega, _, k1, rfl⟩
    · exact ⟨by omega, by have := HVZ.out; omega, _, k2, rfl⟩
    · exact ⟨by omega, by have := HVZ.out; omega, _, k3, rfl⟩
    · exact ⟨by omega, by have := HVZ.out; omega, _, k4, rfl⟩
  case h0 => exact ⟨.inl rfl, .inr (.inl rfl), .inr (.inr (.inl rfl)), .inr (.inr (.inr rfl)), k1, k2, k4, _, k3, World.ownsRow_nil _ _ _ _, fun b hb => by cases hb⟩
  case hassign =>
    intro l x W K hK
    unfold enX
    gi_wp2
    exact hK
  case hbody =>
    clear hb3 hz2 k1 k2 k3 k4 hVq hwk2 hb2 HE2 HE3 HE4 HVZ HQ HB HCR
    rintro l pre x O X W hsz hm ht hbel hwk hpre hge
    have hpl : pre.length = x := by rw [hpre]; simp
    have HM := Lib.hid hm
    have HT := Lib.hid ht
    have HBE := Lib.hid hbel
    have HPL := Lib.hid hpl
    have HG := Lib.hid (hg.step (show Below w.heap.size w W from hbel))
    have HQB := Lib.hid (hq.step (show Below w.heap.size w W from hbel))
    have hcW := ((bcell hbel).1 cb 0 hcb).trans hc
    have hcl : cb < W.heap.size := by have := hbel.size; omega
    have hxl := ht.xl
    have hxo := ht.xo
    have lz := hm.lt ht.xl
    have oz := hm.lt ht.xo
    have wz := hm.lt ht.xw
    have l0 := cell_of_row _ _ 0 _ _ _ ht.last
    have lf := frozen_of_row _ _ 0 _ _ ht.last
    rw [hpl] at l0
    have HGE := Lib.hid hge
    cases x with
    | zero =>
      have l1 : W.cell? ⟨w.heap.size + 1 + 1 + 1, 0, none⟩ = some (.int .i64 (-1)) := l0
      clear l0 hm ht hbel hwk hpre hge hpl hcW hcl
      have HF := Lib.hid (show ∃ X', BodyStep X W (W.setCell ⟨w.heap.size + 1 + 1 + 1, 0, none⟩ (.int .i64 (atF v r 0))) X' ∧ PaT v r g w.heap.size (w.heap.size + 1) (w.heap.size + 1 + 1) (w.heap.size + 1 + 1 + 1) cb cc X' (pre ++ [0]) (W.setCell ⟨w.heap.size + 1 + 1 + 1, 0, none⟩ (.int .i64 (atF v r 0))) from by
        have hn : (pre ++ [0]).length = 1 := by rw [List.length_append, HPL.out]; rfl
        refine ⟨X, (BodyStep.refl HM.out).setCell hxl _, ?_⟩
        obtain ⟨vv, r1, r2, r3⟩ := HT.out.row
        rw [HPL.out] at r2
        have hot : ∀ k, k ≠ w.heap.size + 1 + 1 + 1 → (W.setCell ⟨w.heap.size + 1 + 1 + 1, 0, none⟩ (.int .i64 (atF v r 0))).heap[k]? = W.heap[k]? := fun k hk => heap_setCell_other W ⟨w.heap.size + 1 + 1 + 1, 0, none⟩ k _ hk
        refine ⟨HT.out.xw, HT.out.xk, HT.out.xo, HT.out.xl, (hot _ (by omega)).trans HT.out.wk, (hot _ (by omega)).trans HT.out.kx, ?_, vv, (hot _ (by omega)).trans r1, ?_, r3⟩
        · rw [hn]
          exact heap_setCell_same W (w.heap.size + 1 + 1 + 1) 0 _ _ _ HT.out.last
        · rw [hn]
          exact own_keep r2 (fun b hb => hot b (by have := own_block_le r2 hb; omega)))
      gi_wp2
      exact HF.out
    | succ y =>
      have l1 : W.cell? ⟨w.heap.size + 1 + 1 + 1, 0, none⟩ = some (.int .i64 (atF v r y)) := l0
      have hy0 := hge y (by omega)
      obtain ⟨ha1, ha2⟩ := atF_low hv hr y
      obtain ⟨hb1', hb2'⟩ := atF_low hv hr (y + 1)
      have HCE := Lib.hid (fun (W : World) => cell_any v r (atF v r y) (atF v r (y + 1)) W hv hr ⟨ha1, ha2⟩ ⟨hb1', hb2'⟩)
      have HCB := Lib.hid (cell_bound hv hr (atF v r y) (atF v r (y + 1)))
      have HUP := Lib.hid (atF_up hv hr (y + 1) hge)
      obtain ⟨c0, c1, c2, c3, c4, c5, c6, c7, c8, c9, c10, c11, c12, c13⟩ := cr14 HT.out.wk
      unfold wkVal at HCE
      clear l0 hm ht hbel hwk hpre hge hpl
      gi_upto_region 7 with (refine ⟨trivial, CallsIn.inRound l ((callsIn_wide.2 (HCE.out _)).mono ?_)⟩; rintro e W1 ⟨rfl, hb1⟩)
      clear c0 c1 c2 c3 c4 c5 c6 c7 c8 c9 c10 c11 c12 c13
      obtain ⟨hcb1, hcb2⟩ := HCB.out
      have hn600 := hv.cells
      have l2 := ((bcell hb1).1 _ 0 lz).trans l1
      have HSK := Lib.hid (fun (hone : oneF v r g (atF v r y) (atF v r (y + 1)) = []) (W2 : World) (hb : Below W.heap.size W W2) => pa_skip HT.out HM.out HPL.out (show prN v r g (y + 2) = prN v r g (y + 1) from by rw [prN, hone, List.append_nil]) hb)
      by_cases hneg : cellF v r (atF v r y) (atF v r (y + 1)) < 0
      · have HF := Lib.hid (HSK.out (by unfold oneF; rw [if_pos hneg]) W1 hb1)
        have lf2 : W1.frozen? ⟨w.heap.size + 1 + 1 + 1, 0, none⟩ = false := frozen_of_row _ _ 0 _ _ ((hb1.block _ lz).trans HT.out.last)
        generalize cellF v r (atF v r y) (atF v r (y + 1)) = c at *
        clear HCE HCB HUP HSK l1
        gi_wp2
        exact HF.out
      · have HONE := Lib.hid (show oneF v r g (atF v r y) (atF v r (y + 1)) = if (cutF v r g ⟨cellF v r (atF v r y) (atF v r (y + 1)), atF v r y, atF v r (y + 1)⟩).lo < (cutF v r g ⟨cellF v r (atF v r y) (atF v r (y + 1)), atF v r y, atF v r (y + 1)⟩).hi then [cutF v r g ⟨cellF v r (atF v r y) (atF v r (y + 1)), atF v r y, atF v r (y + 1)⟩] else [] from by unfold oneF; rw [if_neg hneg])
        have HCUT := Lib.hid (fun (W' : World) (hb : Below W.heap.size W W') => cut_any v r hv hr g gn gb qb ⟨cellF v r (atF v r y) (atF v r (y + 1)), atF v r y, atF v r (y + 1)⟩ (by dsimp only; omega) W' (HQB.out.step hb) (HG.out.step hb))
        unfold PT.val at HCUT
        dsimp only at HCUT
        generalize hcut : cutF v r g ⟨cellF v r (atF v r y) (atF v r (y + 1)), atF v r y, atF v r (y + 1)⟩ = P at *
        generalize cellF v r (atF v r y) (atF v r (y + 1)) = c at *
        obtain ⟨pc, pl, ph⟩ := P
        dsimp only at HONE HCUT
        clear HCE HCB l1
        have kx1 := cell_of_row _ _ 0 _ _ _ ((hb1.block _ (HM.out.lt HT.out.xk)).trans HT.out.kx)
        gi_upto_region 9 with (fail)
        have hbp := rk_below W1 (.cells #[.int .i64 c, .int .i64 (atF v r y), .int .i64 (atF v r (y + 1))] 161)
        have HP := Lib.hid (show PtAt W1.heap.size ⟨c, atF v r y, atF v r (y + 1)⟩ (W1.alloc (.cells #[.int .i64 c, .int .i64 (atF v r y), .int .i64 (atF v r (y + 1))] 161)) from heap_alloc_new _ _)
        have HB2 := Lib.hid (hb1.trans (hbp.mono hb1.size))
        have hW1 := hb1.size
        have kx2 := ((bcell hbp).1 _ 0 (Nat.lt_of_lt_of_le (HM.out.lt HT.out.xk) hb1.size)).trans kx1
        clear kx1 hbp
        generalize World.alloc W1 _ = W2 at *
        generalize W1.heap.size = pb at *
        gi_wp2
        clear kx2 l2
        gi_loopw [29] (fun s29 wr => ∃ i : Nat, i ≤ 1 ∧ s29 = .int .i64 (i : Int) ∧ Hid (PtAt pb (if i = 0 then ⟨c, atF v r y, atF v r (y + 1)⟩ else ⟨pc, pl, ph⟩) wr ∧ Below W.heap.size W wr)) (fun s29 _ => 1 - (intOf s29).toNat)
        case atStart => exact ⟨0, by omega, rfl, Lib.hid ⟨HP.out, HB2.out⟩⟩
        case round =>
          obtain ⟨i, hi, rfl, HZ⟩ := hrel
          have HB3 := Lib.hid HZ.out.2
          by_cases hi0 : i = 0
          · subst hi0
            have HP3 := Lib.hid (show PtAt pb ⟨c, atF v r y, atF v r (y + 1)⟩ wr from HZ.out.1)
            have d0 := ((bcell HB3.out).1 cb 0 hcl).trans hcW
            obtain ⟨p0, p1, p2⟩ := cr3 HP3.out
            have HCC := Lib.hid (HCUT.out wr HB3.out)
            clear HZ HP HB2
            gi_wp2_with (fail)
            refine ⟨trivial, CallsIn.inRound l ((callsIn_wide.2 HCC.out).mono ?_)⟩
            rintro e W4 ⟨rfl, hb4⟩
            dsimp only
            have HP4 := Lib.hid (HP3.out.step hb4)
            have HB4 := Lib.hid (HB3.out.trans (hb4.mono HB3.out.size))
            have q0' := cell_of_row _ _ 0 _ _ _ HP4.out
            have q1' := cell_of_row _ _ 1 _ _ _ HP4.out
            have q2' := cell_of_row _ _ 2 _ _ _ HP4.out
            have f0 := frozen_of_row _ _ 0 _ _ HP4.out
            have f1 := frozen_of_row _ _ 1 _ _ HP4.out
            have f2 := frozen_of_row _ _ 2 _ _ HP4.out
            clear d0 p0 p1 p2 HCC hb4 HP3 HB3 HCUT
            gi_wp2
            obtain ⟨s1, _, _⟩ := rk_set3 (x := .int .i64 pc) (y := .int .i64 pl) (z := .int .i64 ph) HP4.out
            have HP5 := Lib.hid s1
            have HB5 := Lib.hid (((HB4.out.setCell (p := ⟨pb, 0, none⟩) (show W.heap.size ≤ pb by omega) (.int .i64 pc)).setCell (p := ⟨pb, 1, none⟩) (show W.heap.size ≤ pb by omega) (.int .i64 pl)).setCell (p := ⟨pb, 2, none⟩) (show W.heap.size ≤ pb by omega) (.int .i64 ph))
            clear s1 q0' q1' q2' f0 f1 f2
            generalize World.setCell (World.setCell (World.setCell W4 _ _) _ _) _ _ = W6 at *
            go_roundw
            case rel => first | exact ⟨1, by omega, rfl, Lib.hid ⟨HP5.out, HB5.out⟩⟩ | ((repeat apply Exists.intro); exact ⟨⟨1, by omega, rfl, Lib.hid ⟨HP5.out, HB5.out⟩⟩, rfl⟩)
            case measure => simp [intOf]
          · obtain rfl : i = 1 := by omega
            have HP3 := Lib.hid (show PtAt pb ⟨pc, pl, ph⟩ wr from HZ.out.1)
            obtain ⟨p0, p1, p2⟩ := cr3 HP3.out
            have l3 := ((bcell HB3.out).1 _ 0 lz).trans (cell_of_row _ _ 0 _ _ _ HT.out.last)
            have lf3 : wr.frozen? ⟨w.heap.size + 1 + 1 + 1, 0, none⟩ = false := frozen_of_row _ _ 0 _ _ ((HB3.out.block _ lz).trans HT.out.last)
            clear HZ HP HB2 HCUT
            by_cases hlh : pl < ph
            · rw [if_pos hlh] at HONE
              have HON2 := Lib.hid (show prN v r g (y + 2) = prN v r g (y + 1) ++ [⟨pc, pl, ph⟩] from by rw [prN, HONE.out])
              obtain ⟨vv, r1, r2, r3⟩ := HT.out.row
              rw [HPL.out] at r2
              have o3 := ((bcell HB3.out).1 _ 0 oz).trans (cell_of_row _ _ 0 _ _ _ r1)
              have HR1 := Lib.hid r1
              have HR2 := Lib.hid r2
              have HR3 := Lib.hid r3
              have HPN := Lib.hid (prN_len v r g (y + 1))
              generalize hln : prN v r g (y + 1) = L at *
              have HOW := Lib.hid (own_below (own_below r2 HB3.out) (rk_below wr (.cells #[.int .i64 pc, .int .i64 pl, .int .i64 ph] 161)))
              have HNW := Lib.hid (World.news_of_block (heap_alloc_new wr (.cells #[.int .i64 pc, .int .i64 pl, .int .i64 ph] 161)))
              have hlen : L.length + 1 ≤ 43200000002 := by have := HPN.out; have := HUP.out; omega
              have hb64 : L.length + 1 ≤ maxLen := by unfold maxLen; omega
              have hb48 : (L.length + 1) * 24 ≤ 140737488355328 := by omega
              obtain ⟨j0, hj0, hz0, hz1, hz2⟩ := info_parts info_part
              have hzA : (wr.alloc (.cells #[.int .i64 pc, .int .i64 pl, .int .i64 ph] 161)).heap.size = wr.heap.size + 1 := by simp
              have hWw := HB3.out.size
              clear r1 r2 r3 HONE
              gi_upto_region 16 with (gi_at_builtin; refine rk_append_lies _ rfl _ _ 147 rfl (w.heap.size + 1 + 1 + 1 + 1) 161 j0 _ 3 24 Tryz.underlying147 hj0 hz0 hz1 hz2 rfl (by decide) vv L.length (ptC L) rfl HOW.out ⟨wr.heap.size, 0, none⟩ 1 1 [.int .i64 pc, .int .i64 pl, .int .i64 ph] rfl rfl HNW.out pt_one (by decide) hb64 hb48 (by rw [hzA]; omega) _ rfl ?_; intro g1 cp V9 hown9 hgrow9 hat9 hlt9; have hne9 : ∀ b, b ≤ w.heap.size + 1 + 1 + 1 → (b : Nat) < W.heap.size → V9.heap[b]? = W.heap[b]? := (fun b h1 h2 => (hgrow9.block b (by rw [hzA]; omega) (fun e => by have := own_block_le HR2.out e.symm; omega)).trans ((Below.heap_alloc wr _ b (by omega)).trans (HB3.out.block b h2))); have ob9 := (hne9 _ (by omega) oz).trans HR1.out; have o9 := cell_of_row _ _ 0 _ _ _ ob9; have of9 := frozen_of_row _ _ 0 _ _ ob9; have lb9 := (hne9 _ (by omega) lz).trans HT.out.last; have l9 := cell_of_row _ _ 0 _ _ _ lb9; have lf9 := frozen_of_row _ _ 0 _ _ lb9)
              have HF := Lib.hid (pa_add (p := ⟨pc, pl, ph⟩) HT.out HM.out HPL.out (by rw [HON2.out, hln]) HB3.out HR1.out (by rw [hln]; exact HR2.out) HR3.out (by rw [hln]; exact hown9) hgrow9 hat9 hlt9)
              rw [hln] at HF
              have l10 := (World.cell?_of_block (heap_setCell_other V9 ⟨w.heap.size + 1 + 1, 0, none⟩ (w.heap.size + 1 + 1 + 1) (.slice (some ⟨g1, 0, none⟩) (L.length + 1) cp) (by show w.heap.size + 1 + 1 + 1 ≠ w.heap.size + 1 + 1; omega))).trans l9
              have lf10 : (V9.setCell ⟨w.heap.size + 1 + 1, 0, none⟩ (.slice (some ⟨g1, 0, none⟩) (L.length + 1) cp)).frozen? ⟨w.heap.size + 1 + 1 + 1, 0, none⟩ = false := by rw [World.frozen?_setCell]; exact lf9
              clear hown9 hgrow9 hat9 hlt9 hne9 ob9 o9 of9 lb9 l9 lf9 HUP HSK
              gi_wp2
              exact HF.out
            · rw [if_neg hlh] at HONE
              have HF := Lib.hid (HSK.out HONE.out wr HB3.out)
              clear HUP HSK HONE
              gi_wp2
              exact HF.out
  case hdone =>
    rintro D m X W hD hDl hDX hM ht hbel hwk hDD
    obtain ⟨vv, h1, h2, h3⟩ := ht.row
    rw [List.length_range] at h2
    have c1 := cell_of_row _ _ 0 _ _ _ h1
    obtain ⟨pa, pc, rfl⟩ := own_len h2
    have HDD := Lib.hid hDD
    have hDo : ∀ b, (Value.slice pa (prN v r g (m + 1)).length pc).ownBlock = some b → b ≠ D := fun b hb e => hDX (by rw [← e]; exact h3 b hb)
    have HRR := Lib.hid (fun (o' : Obj) => show (W.putObj D o').ownsRow w.heap.size 161 3 (.slice pa (prN v r g (m + 1)).length pc) (prN v r g (m + 1)).length (ptC (prN v r g (m + 1))) ∧ Below w.heap.size w (W.putObj D o') from ⟨own_base (own_keep h2 (fun b hb => World.putObj_heap_other (hDo b hb))) (by omega), below_put hbel (by have := hb3.size; omega) o'⟩)
    have HM := Lib.hid hM
    clear h1 h2 h3 ht hbel hwk hDD hDo hM
    go_wp2
    exact leave_marked (v := .slice pa (prN v r g (m + 1)).length pc) HDD.out (fun o' => ⟨by simp [results, Tryz.results76, go_sem], m, pa, pc, HM.out, rfl, (HRR.out o').1, (HRR.out o').2⟩)
end Go.Proofs.YtkdopjkdokgipaaGreatDoor
namespace Go.Proofs.YtkdopjkdokgipaaGreatDoor
open Go.RowKit
set_option linter.unusedVariables false
set_option linter.unusedSimpArgs false
def pt0 : PT := ⟨0, 0, 0⟩
/-- parts in memory -/
def PRow (W : World) (a : Option Addr) (L : List PT) : Prop := L.length = 0 ∨ ∃ b, a = some ⟨b, 0, none⟩ ∧ b < W.heap.size ∧ ∀ i, i < L.length → W.cell? ⟨b, i * 3, none⟩ = some (.int .i64 (L.getD i pt0).cell) ∧ W.cell? ⟨b, i * 3 + 1, none⟩ = some (.int .i64 (L.getD i pt0).lo) ∧ W.cell? ⟨b, i * 3 + 2, none⟩ = some (.int .i64 (L.getD i pt0).hi)
theorem prow_of {W : World} {base : Nat} {a : Option Addr} {c : Nat} {L : List PT} (h : W.ownsRow base 161 3 (.slice a L.length c) L.length (ptC L)) : PRow W a L := by
  by_cases hl : L.length = 0
  · exact .inl hl
  · obtain ⟨b, rfl, h1, h2⟩ := own_at h (by omega)
    refine .inr ⟨b, rfl, h2, fun i hi => ?_⟩
    have hc : ∀ s, s < 3 → W.cell? ⟨b, i * 3 + s, none⟩ = (L.getD i pt0).cells[s]? := fun s hs => by
      rw [h.cellAt (i * 3 + s) (by omega)]
      exact ptC_get L i s pt0 hi hs
    exact ⟨hc 0 (by omega), hc 1 (by omega), hc 2 (by omega)⟩
theorem PRow.step {W W' : World} {a : Option Addr} {L : List PT} (h : PRow W a L) (hb : Below W.heap.size W W') : PRow W' a L := by
  rcases h with h | ⟨b, h1, h2, h3⟩
  · exact .inl h
  · exact .inr ⟨b, h1, Nat.lt_of_lt_of_le h2 hb.size, fun i hi => ⟨((bcell hb).1 _ _ h2).trans (h3 i hi).1, ((bcell hb).1 _ _ h2).trans (h3 i hi).2.1, ((bcell hb).1 _ _ h2).trans (h3 i hi).2.2⟩⟩
def PtOk (N : Int) (p : PT) : Prop := (0 ≤ p.cell ∧ p.cell < N) ∧ p.lo < p.hi ∧ (-43200000000 ≤ p.lo ∧ p.hi ≤ 43200000000)
theorem cut_cell (v : VO) (r : RY) (g : Nat → Int) (p : PT) : (cutF v r g p).cell = p.cell := by
  unfold cutF
  split
  · rfl
  · split
    · rfl
    · split <;> rfl
theorem one_ok {v : VO} {r : RY} (hv : v.Ok) (hr : r.Ok) {g : Nat → Int} (hg : ∀ p : PT, 0 ≤ p.cell → 0 ≤ g (p.cell.tmod (v.nx * v.ny)).toNat ∧ g (p.cell.tmod (v.nx * v.ny)).toNat ≤ 12000) {i j : Nat} : ∀ p ∈ oneF v r g (atF v r i) (atF v r j), PtOk (v.nx * v.ny * v.nz) p := fun p hp => by
  have hc := cell_bound hv hr (atF v r i) (atF v r j)
  have h1 := atF_low hv hr i
  have h2 := atF_low hv hr j
  have hT := tkF_bound hr
  unfold oneF at hp
  split at hp
  · cases hp
  · rename_i hn
    split at hp
    · rename_i hlt
      rw [List.mem_singleton] at hp
      subst hp
      have hgg := hg ⟨cellF v r (atF v r i) (atF v r j), atF v r i, atF v r j⟩ (by dsimp only; omega)
      have hw := (wh_bound (T := (tkF r : Int)) (a := axF v r 2) (p := g ((cellF v r (atF v r i) (atF v r j)).tmod (v.nx * v.ny)).toNat) (by omega) (ax_bound hv hr 2).1 (by dsimp only at hgg; omega)).2
      refine ⟨by rw [cut_cell]; dsimp only; omega, hlt, ?_⟩
      unfold cutF at hlt ⊢
      dsimp only at hlt hgg ⊢
      split
      · rename_i h3; rw [if_pos h3] at hlt; dsimp only at hlt ⊢; omega
      · rename_i h3
        rw [if_neg h3] at hlt
        split
        · rename_i h4; rw [if_pos h4] at hlt; dsimp only at hlt ⊢; omega
        · rename_i h4
          rw [if_neg h4] at hlt
          split
          · rename_i h5; rw [if_pos h5] at hlt; dsimp only at hlt; omega
          · dsimp only; omega
    · cases hp
theorem prN_ok {v : VO} {r : RY} (hv : v.Ok) (hr : r.Ok) {g : Nat → Int} (hg : ∀ p : PT, 0 ≤ p.cell → 0 ≤ g (p.cell.tmod (v.nx * v.ny)).toNat ∧ g (p.cell.tmod (v.nx * v.ny)).toNat ≤ 12000) : ∀ k, ∀ p ∈ prN v r g k, PtOk (v.nx * v.ny * v.nz) p
  | 0, p, hp => by cases hp
  | 1, p, hp => by cases hp
  | k + 2, p, hp => by
    rw [prN, List.mem_append] at hp
    rcases hp with hp | hp
    · exact prN_ok hv hr hg (k + 1) p hp
    · exact one_ok hv hr hg p hp
/-- chords as cells -/
def chC : List PT → List Value
  | [] => []
  | x :: t => [.int .i64 x.cell, .int .i64 (x.hi - x.lo)] ++ chC t
theorem chC_append : ∀ (a b : List PT), chC (a ++ b) = chC a ++ chC b
  | [], b => rfl
  | h :: t, b => by rw [List.cons_append, chC, chC, chC_append t b, List.append_assoc]
theorem info_chord : (Tryz.prog.info? 83).map (fun i => (i.zero, i.size, i.bytes)) = some (some (.agg #[.int .i64 0, .int .i64 0]), 2, 16) := by kernel_rfl
theorem ch_one {a b : Int} : ∀ u ∈ [Value.int .i64 a, .int .i64 b], u.oneCell' = true := by
  intro u hu
  simp at hu
  rcases hu with rfl | rfl <;> rfl
theorem take_succ_getD (L : List PT) {i : Nat} (h : i < L.length) : L.take (i + 1) = L.take i ++ [L.getD i pt0] := by
  rw [List.take_add_one, List.getElem?_eq_getElem h, List.getD_eq_getElem?_getD, List.getElem?_eq_getElem h]
  rfl
set_option maxRecDepth 100000 in
set_option maxHeartbeats 2000000 in
theorem chords_any (L : List PT) (pa : Option Addr) (pc : Nat) (N : Int) (w : World) (hP : PRow w pa L) (hN : ∀ p ∈ L, PtOk N p) (hl : L.length ≤ 43200000002) :
    Calls Tryz.prog 75 #[.slice pa L.length pc] w fun e w' => ∃ ca cc, e = .returned (.slice ca L.length cc) ∧ w'.ownsRow w.heap.size 83 2 (.slice ca L.length cc) L.length (chC L) ∧ Below w.heap.size w w' := by
  have HP := Lib.hid hP
  have HN := Lib.hid hN
  obtain ⟨n, hn⟩ : ∃ n, L.length = n := ⟨_, rfl⟩
  have HL := Lib.hid hn
  rw [hn] at hl ⊢
  clear hP hN hn
  go_enter Tryz.func75, Tryz.ntmps75
  go_wp2
  go_loopw [3, 8] (fun s3 s8 wr => ∃ i : Nat, i ≤ n ∧ s8 = .int .i64 (i : Int) ∧ Hid (∃ ca cc, s3 = .slice ca i cc ∧ wr.ownsRow w.heap.size 83 2 (.slice ca i cc) i (chC (L.take i)) ∧ Below w.heap.size w wr)) (fun _ s8 _ => n - (intOf s8).toNat)
  case atStart => exact ⟨0, Nat.zero_le _, rfl, Lib.hid ⟨none, 0, rfl, World.ownsRow_nil _ _ _ _, Below.refl _ _⟩⟩
  case round =>
    obtain ⟨i, hi, rfl, HX⟩ := hrel
    obtain ⟨ca, cc, rfl, how, hbw⟩ := HX.out
    have HOW := Lib.hid how
    have HBW := Lib.hid hbw
    clear HX how hbw
    by_cases hlt : i < n
    · have hlt' : (i : Int) < (n : Int) := by omega
      rcases HP.out with h | ⟨b, rfl, hbz, hcs⟩
      · have := HL.out; omega
      obtain ⟨c0, c1, c2⟩ := hcs i (by have := HL.out; omega)
      have hb' : b < wr.heap.size := by have := HBW.out.size; omega
      have d0 := ((bcell HBW.out).1 b (i * 3) hbz).trans c0
      have d1 := ((bcell HBW.out).1 b (i * 3 + 1) hbz).trans c1
      have d2 := ((bcell HBW.out).1 b (i * 3 + 2) hbz).trans c2
      have HTK := Lib.hid (take_succ_getD L (i := i) (by have := HL.out; omega))
      obtain ⟨⟨hk1, hk2⟩, hk3, hk4, hk5⟩ := HN.out (L.getD i pt0) (by
        rw [List.getD_eq_getElem?_getD, List.getElem?_eq_getElem (by have := HL.out; omega)]
        exact List.getElem_mem _)
      generalize L.getD i pt0 = p at *
      obtain ⟨pcell, plo, phi⟩ := p
      dsimp only at d0 d1 d2 hk1 hk2 hk3 hk4 hk5
      clear hcs c0 c1 c2
      go_upto_region 5 with (fail)
      have hb1 := rk_below wr (.cells #[.int .i64 pcell, .int .i64 plo, .int .i64 phi] 161)
      have hn1 := heap_alloc_new wr (.cells #[.int .i64 pcell, .int .i64 plo, .int .i64 phi] 161)
      have HO1 := Lib.hid (own_below HOW.out hb1)
      have HB1 := Lib.hid (HBW.out.trans (hb1.mono HBW.out.size))
      obtain ⟨p0, p1, p2⟩ := cr3 hn1
      have hw1 := HB1.out.size
      clear hb1 hn1 HOW HBW d0 d1 d2
      generalize World.alloc wr _ = W2 at *
      have HOW := Lib.hid (own_below HO1.out (rk_below W2 (.cells #[.int .i64 pcell, .int .i64 (phi - plo)] 83)))
      have HNW := Lib.hid (World.news_of_block (heap_alloc_new W2 (.cells #[.int .i64 pcell, .int .i64 (phi - plo)] 83)))
      have HB2 := Lib.hid (HB1.out.trans ((rk_below W2 (.cells #[.int .i64 pcell, .int .i64 (phi - plo)] 83)).mono hw1))
      have hb64 : i + 1 ≤ maxLen := by unfold maxLen; omega
      have hb48 : (i + 1) * 16 ≤ 140737488355328 := by omega
      obtain ⟨j0, hj0, hz0, hz1, hz2⟩ := info_parts info_chord
      have hzA : (W2.alloc (.cells #[.int .i64 pcell, .int .i64 (phi - plo)] 83)).heap.size = W2.heap.size + 1 := by simp
      go_upto_region 6 with (at_builtin; refine wpList_append_lies _ rfl _ _ 77 rfl w.heap.size 83 j0 _ 2 16 Tryz.underlying77 hj0 hz0 hz1 hz2 rfl (by decide) (.slice ca i cc) i (chC (L.take i)) rfl HOW.out ⟨W2.heap.size, 0, none⟩ 1 1 [.int .i64 pcell, .int .i64 (phi - plo)] rfl rfl HNW.out ch_one (by decide) hb64 hb48 (by rw [hzA]; omega) _ rfl ?_; intro g1 cp V9 hown9 hgrow9 hat9 hlt9)
      have HB9 := Lib.hid (HB2.out.grown hgrow9 (by rw [hzA]; omega) (fun b hb => own_block_le HOW.out hb))
      have HO9 := Lib.hid (show V9.ownsRow w.heap.size 83 2 (.slice (some ⟨g1, 0, none⟩) (i + 1) cp) (i + 1) (chC (L.take (i + 1))) from by
        rw [HTK.out, chC_append]
        exact hown9)
      clear hown9 hgrow9 hat9 hlt9 p0 p1 p2 HO1 HB1 HOW HNW HB2
      go_wp2
      go_roundw
      case rel => first | exact ⟨i + 1, by omega, by go_num, Lib.hid ⟨_, _, rfl, HO9.out, HB9.out⟩⟩ | ((repeat apply Exists.intro); exact ⟨⟨i + 1, by omega, by go_num, Lib.hid ⟨_, _, rfl, HO9.out, HB9.out⟩⟩, rfl⟩)
      case measure => simp [intOf]; omega
    · obtain rfl : i = n := by omega
      have hlt' : ¬ (i : Int) < (i : Int) := by omega
      have HFI := Lib.hid (show wr.ownsRow w.heap.size 83 2 (.slice ca i cc) i (chC L) from by
        have := HOW.out
        rwa [List.take_of_length_le (by have := HL.out; omega)] at this)
      go_wp2
      go_ret
      exact ⟨ca, cc, rfl, HFI.out, HBW.out⟩
def grB (v : VO) (n : Nat) (g : Nat → Int) : Bool := allUpto n (fun i => inB (g i) 0 (v.nz * v.size)) && ((n : Int) == v.nx * v.ny)
set_option maxRecDepth 100000 in
set_option maxHeartbeats 2000000 in
theorem grounded_any (v : VO) (hv : v.Ok) (ga : Option Addr) (n gc : Nat) (g : Nat → Int) (w : World) (hn : n ≤ maxLen) (hG : Ints w.heap.size w ga n g) :
    Calls Tryz.prog 41 #[v.val, .slice ga n gc] w fun e w' => e = .returned (.bool (grB v n g)) ∧ Below w.heap.size w w' := by
  have HG := Lib.hid hG
  have HNO := Lib.hid (fun (i : Nat) (hi : i < n) (h : inB (g i) 0 (v.nz * v.size) = false) => show grB v n g = false from by unfold grB; rw [allUpto_false hi h, Bool.false_and])
  have HYES := Lib.hid (fun (h : ∀ i, i < n → inB (g i) 0 (v.nz * v.size) = true) => show grB v n g = ((n : Int) == v.nx * v.ny) from by unfold grB; rw [allUpto_true h, Bool.true_and])
  have hm1 := rk_mul_abs (x := v.nz) (y := v.size) (K := 12) (M := 1000) (by decide) (by decide) (by have := hv.z; omega) (by have := hv.size; omega)
  have hm2 := rk_mul_abs (x := v.nx) (y := v.ny) (K := 12) (M := 12) (by decide) (by decide) (by have := hv.x; omega) (by have := hv.y; omega)
  unfold maxLen at hn
  generalize grB v n g = RES at *
  unfold VO.val
  generalize hzs : v.nz * v.size = zs at *
  generalize hxy : v.nx * v.ny = xy at *
  clear hG
  go_enter Tryz.func41, Tryz.ntmps41
  go_upto_region 1 with (fail)
  have HB := Lib.hid (rk_below w (.cells #[.int .i64 v.nx, .int .i64 v.ny, .int .i64 v.nz, .int .i64 v.size] 23))
  have hnn := heap_alloc_new w (.cells #[.int .i64 v.nx, .int .i64 v.ny, .int .i64 v.nz, .int .i64 v.size] 23)
  generalize World.alloc w _ = V at *
  obtain ⟨k0, k1, k2, k3⟩ := cr4 hnn
  clear hnn
  go_wp2
  go_loopw [9] (fun s wr => ∃ i : Nat, i ≤ n ∧ s = .int .i64 (i : Int) ∧ wr = V ∧ Hid (∀ j, j < i → inB (g j) 0 zs = true)) (fun s _ => n - (intOf s).toNat)
  case atStart => exact ⟨0, Nat.zero_le _, rfl, rfl, Lib.hid (fun j hj => by omega)⟩
  case round =>
    obtain ⟨i, hi, rfl, rfl, HA⟩ := hrel
    by_cases hlt : i < n
    · have hlt' : (i : Int) < (n : Int) := by omega
      obtain ⟨gb, go, rfl, hgl, hgc⟩ := HG.out.get hlt
      have hg1 := ((bcell HB.out).1 gb (go + i) hgl).trans hgc
      clear hgc
      cases hb : inB (g i) 0 zs
      · have HE := Lib.hid (HNO.out i hlt hb)
        go_wp2_with (go_at_call 42; refine (rkin_any _ _ _ _).mono ?_; rintro e w' ⟨rfl, rfl⟩; rw [hb])
        go_ret
        exact ⟨ret_bool HE.out.symm, HB.out⟩
      · have HA2 := Lib.hid (fun j (hj : j < i + 1) => show inB (g j) 0 zs = true from (by by_cases e : j = i; (subst e; exact hb); exact HA.out j (by omega)))
        go_wp2_with (go_at_call 42; refine (rkin_any _ _ _ _).mono ?_; rintro e w' ⟨rfl, rfl⟩; rw [hb])
        go_roundw
        case rel => first | exact ⟨i + 1, by omega, by go_num, trivial, HA2⟩ | ((repeat apply Exists.intro); exact ⟨⟨i + 1, by omega, by go_num, trivial, HA2⟩, rfl⟩)
        case measure => simp [intOf]; omega
    · obtain rfl : i = n := by omega
      have hlt' : ¬ (i : Int) < (i : Int) := by omega
      have HE := Lib.hid (HYES.out HA.out)
      go_wp2
      go_ret
      exact ⟨ret_bool HE.out.symm, HB.out⟩
end Go.Proofs.YtkdopjkdokgipaaGreatDoor
namespace Go.Proofs.YtkdopjkdokgipaaGreatDoor
open Go.RowKit
set_option linter.unusedVariables false
set_option linter.unusedSimpArgs false
theorem gr_iff {v : VO} {n : Nat} {g : Nat → Int} : grB v n g = true ↔ (∀ i, i < n → 0 ≤ g i ∧ g i ≤ v.nz * v.size) ∧ (n : Int) = v.nx * v.ny := by
  unfold grB
  rw [Bool.and_eq_true, allUpto_iff, beq_iff_eq]
  exact ⟨fun ⟨h1, h2⟩ => ⟨fun i hi => inB_iff.1 (h1 i hi), h2⟩, fun ⟨h1, h2⟩ => ⟨fun i hi => inB_iff.2 (h1 i hi), h2⟩⟩
theorem gr_ok {v : VO} (hv : v.Ok) {n : Nat} {g : Nat → Int} (h : grB v n g = true) : ∀ i, i < n → 0 ≤ g i ∧ g i ≤ 12000 := fun i hi => by
  have h1 := (gr_iff.1 h).1 i hi
  have h2 := rk_mul_abs (x := v.nz) (y := v.size) (K := 12) (M := 1000) (by decide) (by decide) (by have := hv.z; omega) (by have := hv.size; omega)
  omega
theorem gr_mod {v : VO} (hv : v.Ok) {n : Nat} {g : Nat → Int} (h : grB v n g = true) : ∀ p : PT, 0 ≤ p.cell → 0 ≤ g (p.cell.tmod (v.nx * v.ny)).toNat ∧ g (p.cell.tmod (v.nx * v.ny)).toNat ≤ 12000 := fun p hp => by
  obtain ⟨k, h1, h2⟩ := mod_bound hv hp
  rw [h1, Int.toNat_natCast]
  exact gr_ok hv h k (by have := (gr_iff.1 h).2; omega)
theorem prN_many {v : VO} {r : RY} (hv : v.Ok) (hr : r.Ok) {g : Nat → Int} {m : Nat} (hM : IsM v r m) : (prN v r g (m + 1)).length ≤ 43200000002 := by
  have h1 := prN_len v r g (m + 1)
  have h2 := atF_up hv hr m hM.1
  have h3 := (atF_low hv hr m).2
  omega
/-- whether a ray can be walked under a ground -/
def rkOk (v : VO) (r : RY) (n : Nat) (g : Nat → Int) : Bool := (volB v && rayB r) && grB v n g
set_option maxRecDepth 100000 in
set_option maxHeartbeats 2000000 in
theorem Under_bad (v : VO) (r : RY) (ga : Option Addr) (gn gc : Nat) (g : Nat → Int) (w : World) (hgn : gn ≤ maxLen) (hG : Ints w.heap.size w ga gn g) (hno : rkOk v r gn g = false) :
    Calls Tryz.prog 31 #[v.val, .slice ga gn gc, r.val] w fun e w' => e = .returned (.tuple #[.slice none 0 0, .int .i64 2]) ∧ Below w.heap.size w w' := by
  have HVO := Lib.hid (fun (W : World) => volume_any v W); have HRY := Lib.hid (fun (W : World) => ray_any r W); have HGR0 := Lib.hid (fun (hv : v.Ok) (W : World) (hb : Below w.heap.size w W) => grounded_any v hv ga gn gc g W hgn ((hG.below hb).up hb.size)); unfold VO.val at HVO HGR0; unfold RY.val at HRY
  unfold VO.val RY.val
  unfold rkOk at hno
  cases h1 : volB v
  · rw [h1] at HVO
    clear HGR0 hG hno
    go_enter Tryz.func31, Tryz.ntmps31; go_upto_region 1 with (fail); (obtain ⟨hVb, e1, e2⟩ := rk_two w (.cells #[.int .i64 v.nx, .int .i64 v.ny, .int .i64 v.nz, .int .i64 v.size] 23) (.cells #[.int .i64 r.x, .int .i64 r.y, .int .i64 r.z, .int .i64 r.dx, .int .i64 r.dy, .int .i64 r.dz] 26)); have HB := Lib.hid hVb; have HV := Lib.hid e1; have HR := Lib.hid e2; clear hVb e1 e2; generalize World.alloc (World.alloc w _) _ = V at *; (try clear v0 v1 v2 v3 s0 s1 s2 s3 s4 s5); obtain ⟨v0, v1, v2, v3⟩ := cr4 HV.out; obtain ⟨s0, s1, s2, s3, s4, s5⟩ := cr6 HR.out
    go_wp2_with (first | (go_at_call 39; refine (HVO.out _).mono ?_; rintro e w2 ⟨rfl, hb2⟩; (replace HB := Lib.hid (HB.out.trans ((hb2).mono HB.out.size)); replace HV := Lib.hid (bs HV.out hb2); replace HR := Lib.hid (bs HR.out hb2); clear hb2; (try clear v0 v1 v2 v3 s0 s1 s2 s3 s4 s5); obtain ⟨v0, v1, v2, v3⟩ := cr4 HV.out; obtain ⟨s0, s1, s2, s3, s4, s5⟩ := cr6 HR.out)))
    refine bodyPost_ret (results_tmp2 (t := 6) (u := 7) rfl _ _ _) rfl ?_
    exact ⟨rfl, HB.out⟩
  rw [h1] at HVO hno
  have HGR1 := Lib.hid (HGR0.out (volB_iff.1 h1))
  cases h2 : rayB r
  · rw [h2] at HRY
    clear HGR0 hG hno
    go_enter Tryz.func31, Tryz.ntmps31; go_upto_region 1 with (fail); (obtain ⟨hVb, e1, e2⟩ := rk_two w (.cells #[.int .i64 v.nx, .int .i64 v.ny, .int .i64 v.nz, .int .i64 v.size] 23) (.cells #[.int .i64 r.x, .int .i64 r.y, .int .i64 r.z, .int .i64 r.dx, .int .i64 r.dy, .int .i64 r.dz] 26)); have HB := Lib.hid hVb; have HV := Lib.hid e1; have HR := Lib.hid e2; clear hVb e1 e2; generalize World.alloc (World.alloc w _) _ = V at *; (try clear v0 v1 v2 v3 s0 s1 s2 s3 s4 s5); obtain ⟨v0, v1, v2, v3⟩ := cr4 HV.out; obtain ⟨s0, s1, s2, s3, s4, s5⟩ := cr6 HR.out
    go_wp2_with (first | (go_at_call 39; refine (HVO.out _).mono ?_; rintro e w2 ⟨rfl, hb2⟩; (replace HB := Lib.hid (HB.out.trans ((hb2).mono HB.out.size)); replace HV := Lib.hid (bs HV.out hb2); replace HR := Lib.hid (bs HR.out hb2); clear hb2; (try clear v0 v1 v2 v3 s0 s1 s2 s3 s4 s5); obtain ⟨v0, v1, v2, v3⟩ := cr4 HV.out; obtain ⟨s0, s1, s2, s3, s4, s5⟩ := cr6 HR.out)) | (go_at_call 40; refine (HRY.out _).mono ?_; rintro e w2 ⟨rfl, hb2⟩; (replace HB := Lib.hid (HB.out.trans ((hb2).mono HB.out.size)); replace HV := Lib.hid (bs HV.out hb2); replace HR := Lib.hid (bs HR.out hb2); clear hb2; (try clear v0 v1 v2 v3 s0 s1 s2 s3 s4 s5); obtain ⟨v0, v1, v2, v3⟩ := cr4 HV.out; obtain ⟨s0, s1, s2, s3, s4, s5⟩ := cr6 HR.out)))
    refine bodyPost_ret (results_tmp2 (t := 6) (u := 7) rfl _ _ _) rfl ?_
    exact ⟨rfl, HB.out⟩
  rw [h2] at HRY hno
  rw [Bool.true_and, Bool.true_and] at hno
  rw [hno] at HGR1
  have HGR := HGR1
  clear HGR0 HGR1 hG hno
  go_enter Tryz.func31, Tryz.ntmps31; go_upto_region 1 with (fail); (obtain ⟨hVb, e1, e2⟩ := rk_two w (.cells #[.int .i64 v.nx, .int .i64 v.ny, .int .i64 v.nz, .int .i64 v.size] 23) (.cells #[.int .i64 r.x, .int .i64 r.y, .int .i64 r.z, .int .i64 r.dx, .int .i64 r.dy, .int .i64 r.dz] 26)); have HB := Lib.hid hVb; have HV := Lib.hid e1; have HR := Lib.hid e2; clear hVb e1 e2; generalize World.alloc (World.alloc w _) _ = V at *; (try clear v0 v1 v2 v3 s0 s1 s2 s3 s4 s5); obtain ⟨v0, v1, v2, v3⟩ := cr4 HV.out; obtain ⟨s0, s1, s2, s3, s4, s5⟩ := cr6 HR.out
  go_wp2_with (first | (go_at_call 39; refine (HVO.out _).mono ?_; rintro e w2 ⟨rfl, hb2⟩; (replace HB := Lib.hid (HB.out.trans ((hb2).mono HB.out.size)); replace HV := Lib.hid (bs HV.out hb2); replace HR := Lib.hid (bs HR.out hb2); clear hb2; (try clear v0 v1 v2 v3 s0 s1 s2 s3 s4 s5); obtain ⟨v0, v1, v2, v3⟩ := cr4 HV.out; obtain ⟨s0, s1, s2, s3, s4, s5⟩ := cr6 HR.out)) | (go_at_call 40; refine (HRY.out _).mono ?_; rintro e w2 ⟨rfl, hb2⟩; (replace HB := Lib.hid (HB.out.trans ((hb2).mono HB.out.size)); replace HV := Lib.hid (bs HV.out hb2); replace HR := Lib.hid (bs HR.out hb2); clear hb2; (try clear v0 v1 v2 v3 s0 s1 s2 s3 s4 s5); obtain ⟨v0, v1, v2, v3⟩ := cr4 HV.out; obtain ⟨s0, s1, s2, s3, s4, s5⟩ := cr6 HR.out)) | (go_at_call 41; refine (HGR.out _ HB.out).mono ?_; rintro e w2 ⟨rfl, hb2⟩; (replace HB := Lib.hid (HB.out.trans ((hb2).mono HB.out.size)); replace HV := Lib.hid (bs HV.out hb2); replace HR := Lib.hid (bs HR.out hb2); clear hb2; (try clear v0 v1 v2 v3 s0 s1 s2 s3 s4 s5); obtain ⟨v0, v1, v2, v3⟩ := cr4 HV.out; obtain ⟨s0, s1, s2, s3, s4, s5⟩ := cr6 HR.out)))
  refine bodyPost_ret (results_tmp2 (t := 6) (u := 7) rfl _ _ _) rfl ?_
  exact ⟨rfl, HB.out⟩
set_option maxRecDepth 100000 in
set_option maxHeartbeats 4000000 in
theorem Under_ok (v : VO) (r : RY) (ga : Option Addr) (gn gc : Nat) (g : Nat → Int) (w : World) (hgn : gn ≤ maxLen) (hG : Ints w.heap.size w ga gn g) (hok : rkOk v r gn g = true) :
    Calls Tryz.prog 31 #[v.val, .slice ga gn gc, r.val] w fun e w' => ∃ m ca cc, IsM v r m ∧ e = .returned (.tuple #[.slice ca (prN v r g (m + 1)).length cc, .int .i64 0]) ∧ w'.ownsRow w.heap.size 83 2 (.slice ca (prN v r g (m + 1)).length cc) (prN v r g (m + 1)).length (chC (prN v r g (m + 1))) ∧ Below w.heap.size w w' := by
  have HVO := Lib.hid (fun (W : World) => volume_any v W); have HRY := Lib.hid (fun (W : World) => ray_any r W); have HGR0 := Lib.hid (fun (hv : v.Ok) (W : World) (hb : Below w.heap.size w W) => grounded_any v hv ga gn gc g W hgn ((hG.below hb).up hb.size)); unfold VO.val at HVO HGR0; unfold RY.val at HRY
  unfold rkOk at hok
  rw [Bool.and_eq_true, Bool.and_eq_true] at hok
  obtain ⟨⟨h1, h2⟩, h3⟩ := hok
  have hv := volB_iff.1 h1
  have hr := rayB_iff.1 h2
  have HGR := Lib.hid (HGR0.out hv)
  have HTH := Lib.hid (fun (W : World) => through_any v r W hr)
  have HVR := Lib.hid (And.intro hv (And.intro hr h3))
  have HG0 := Lib.hid hG
  rw [h1] at HVO
  rw [h2] at HRY
  rw [h3] at HGR
  unfold VO.val RY.val wkVal at HTH
  unfold VO.val RY.val
  clear HGR0 hG h1 h2 h3 hv hr
  go_enter Tryz.func31, Tryz.ntmps31; go_upto_region 1 with (fail); (obtain ⟨hVb, e1, e2⟩ := rk_two w (.cells #[.int .i64 v.nx, .int .i64 v.ny, .int .i64 v.nz, .int .i64 v.size] 23) (.cells #[.int .i64 r.x, .int .i64 r.y, .int .i64 r.z, .int .i64 r.dx, .int .i64 r.dy, .int .i64 r.dz] 26)); have HB := Lib.hid hVb; have HV := Lib.hid e1; have HR := Lib.hid e2; clear hVb e1 e2; generalize World.alloc (World.alloc w _) _ = V at *; (try clear v0 v1 v2 v3 s0 s1 s2 s3 s4 s5); obtain ⟨v0, v1, v2, v3⟩ := cr4 HV.out; obtain ⟨s0, s1, s2, s3, s4, s5⟩ := cr6 HR.out
  go_upto_region 4 with (first | (go_at_call 39; refine (HVO.out _).mono ?_; rintro e w2 ⟨rfl, hb2⟩; (replace HB := Lib.hid (HB.out.trans ((hb2).mono HB.out.size)); replace HV := Lib.hid (bs HV.out hb2); replace HR := Lib.hid (bs HR.out hb2); clear hb2; (try clear v0 v1 v2 v3 s0 s1 s2 s3 s4 s5); obtain ⟨v0, v1, v2, v3⟩ := cr4 HV.out; obtain ⟨s0, s1, s2, s3, s4, s5⟩ := cr6 HR.out)) | (go_at_call 40; refine (HRY.out _).mono ?_; rintro e w2 ⟨rfl, hb2⟩; (replace HB := Lib.hid (HB.out.trans ((hb2).mono HB.out.size)); replace HV := Lib.hid (bs HV.out hb2); replace HR := Lib.hid (bs HR.out hb2); clear hb2; (try clear v0 v1 v2 v3 s0 s1 s2 s3 s4 s5); obtain ⟨v0, v1, v2, v3⟩ := cr4 HV.out; obtain ⟨s0, s1, s2, s3, s4, s5⟩ := cr6 HR.out)) | (go_at_call 41; refine (HGR.out _ HB.out).mono ?_; rintro e w2 ⟨rfl, hb2⟩; (replace HB := Lib.hid (HB.out.trans ((hb2).mono HB.out.size)); replace HV := Lib.hid (bs HV.out hb2); replace HR := Lib.hid (bs HR.out hb2); clear hb2; (try clear v0 v1 v2 v3 s0 s1 s2 s3 s4 s5); obtain ⟨v0, v1, v2, v3⟩ := cr4 HV.out; obtain ⟨s0, s1, s2, s3, s4, s5⟩ := cr6 HR.out)) | (go_at_call 44; refine (HTH.out _).mono ?_; rintro e w2 ⟨rfl, hb2⟩; (replace HB := Lib.hid (HB.out.trans ((hb2).mono HB.out.size)); replace HV := Lib.hid (bs HV.out hb2); replace HR := Lib.hid (bs HR.out hb2); clear hb2; (try clear v0 v1 v2 v3 s0 s1 s2 s3 s4 s5); obtain ⟨v0, v1, v2, v3⟩ := cr4 HV.out; obtain ⟨s0, s1, s2, s3, s4, s5⟩ := cr6 HR.out)))
  rename World => W2
  have hb8 := rk_below W2 (.cells #[.int .i64 v.nx, .int .i64 v.ny, .int .i64 v.nz, .int .i64 v.size, .int .i64 r.x, .int .i64 r.dx, .int .i64 v.nx, .int .i64 r.y, .int .i64 r.dy, .int .i64 v.ny, .int .i64 r.z, .int .i64 r.dz, .int .i64 v.nz, .int .i64 (tkF r : Int)] 96)
  have HQ := Lib.hid (show WkAt v r W2.heap.size (W2.alloc (.cells #[.int .i64 v.nx, .int .i64 v.ny, .int .i64 v.nz, .int .i64 v.size, .int .i64 r.x, .int .i64 r.dx, .int .i64 v.nx, .int .i64 r.y, .int .i64 r.dy, .int .i64 v.ny, .int .i64 r.z, .int .i64 r.dz, .int .i64 v.nz, .int .i64 (tkF r : Int)] 96)) from heap_alloc_new W2 _)
  (replace HB := Lib.hid (HB.out.trans ((hb8).mono HB.out.size)); replace HV := Lib.hid (bs HV.out hb8); replace HR := Lib.hid (bs HR.out hb8); clear hb8; (try clear v0 v1 v2 v3 s0 s1 s2 s3 s4 s5); obtain ⟨v0, v1, v2, v3⟩ := cr4 HV.out; obtain ⟨s0, s1, s2, s3, s4, s5⟩ := cr6 HR.out)
  generalize World.alloc W2 _ = V3 at *
  generalize W2.heap.size = q8 at *
  clear v0 v1 v2 v3 s0 s1 s2 s3 s4 s5 HV HR HVO HRY HGR HTH
  refine wp_region_any (by kernel_rfl) ?_
  change wpAny _ _ _ _ _ _ _ (World.drew V3)
  have HB := Lib.hid (show Below w.heap.size w V3.drew from HB.out.drew)
  have HQ := Lib.hid (show WkAt v r q8 V3.drew from HQ.out)
  generalize World.drew V3 = Vd at *
  refine any_of_tail 8 8 (fun w' => WkAt v r q8 w') (by kernel_rfl) HQ.out (fun hS => ?_)
  refine headH_take (i := 0) (v := ?_) rfl (by kernel_rfl) (fun _ _ _ h => h) (Or.inl ⟨by rfl, ?_⟩) (by assumption) ?_; rotate_left; (· intro w' hSw; (try dsimp only at hSw); obtain ⟨c0, c1, c2, c3, c4, c5, c6, c7, c8, c9, c10, c11, c12, c13⟩ := cr14 hSw; (try simp only [hng]); go_simp; (try with_reducible rfl)); (try simp only [hng]); (try dsimp only [Act.put]); (try simp only [hns])
  refine headH_take (i := 1) (v := ?_) rfl (by kernel_rfl) (fun _ _ _ h => h) (Or.inl ⟨by rfl, ?_⟩) (by assumption) ?_; rotate_left; (· intro w' hSw; (try dsimp only at hSw); obtain ⟨c0, c1, c2, c3, c4, c5, c6, c7, c8, c9, c10, c11, c12, c13⟩ := cr14 hSw; (try simp only [hng]); go_simp; (try with_reducible rfl)); (try simp only [hng]); (try dsimp only [Act.put]); (try simp only [hns])
  refine headH_take (i := 2) (v := ?_) rfl (by kernel_rfl) (fun _ _ _ h => h) (Or.inl ⟨by rfl, ?_⟩) (by assumption) ?_; rotate_left; (· intro w' hSw; (try dsimp only at hSw); obtain ⟨c0, c1, c2, c3, c4, c5, c6, c7, c8, c9, c10, c11, c12, c13⟩ := cr14 hSw; (try simp only [hng]); go_simp; (try with_reducible rfl)); (try simp only [hng]); (try dsimp only [Act.put]); (try simp only [hns])
  refine headH_all (rs := [3]) (by kernel_rfl) (by simp) (by kernel_rfl) ?_; intro i0 hi0; simp only [List.mem_cons, List.not_mem_nil, or_false] at hi0; subst hi0
  refine headH_op rfl (fun K hK => ?_); (try simp only [hng]); go_simp
  refine (under_any v r ga gn gc Vd).mono ?_
  rintro e W5 ⟨rfl, hw5, hg5, hb5⟩
  dsimp only
  have HQ5 := Lib.hid (HQ.out.step hb5)
  have HB5 := Lib.hid (HB.out.trans (hb5.mono HB.out.size))
  have HW5 := Lib.hid hw5
  have HGA := Lib.hid (show GrAt v g gn (Vd.heap.size + 1) W5 from ⟨(gr_iff.1 HVR.out.2.2).2, gr_ok HVR.out.1 HVR.out.2.2, ga, gc, hg5, (HG0.out.below HB5.out).up HB5.out.size⟩)
  refine hK.out _ _ HQ5.out (fun hS => ?_)
  clear hK K hb5 hw5 hg5
  (try simp only [hng]); (try dsimp only [Act.put]); (try simp only [hns])
  refine headH_all (rs := [4]) (by kernel_rfl) (by simp) (by kernel_rfl) ?_; intro i0 hi0; simp only [List.mem_cons, List.not_mem_nil, or_false] at hi0; subst hi0
  refine headH_op rfl (fun K hK => ?_); (try simp only [hng]); go_simp
  have hb6 := rk_below W5 (.cells #[.func (.func 101) #[] #[.pointer (some ⟨Vd.heap.size + 1, 0, none⟩), .pointer (some ⟨Vd.heap.size, 0, none⟩)]] 150)
  have hn6 := heap_alloc_new W5 (.cells #[.func (.func 101) #[] #[.pointer (some ⟨Vd.heap.size + 1, 0, none⟩), .pointer (some ⟨Vd.heap.size, 0, none⟩)]] 150)
  have HC6 := Lib.hid (cell_of_row _ _ 0 _ _ _ hn6)
  have hl6 := (bl hn6)
  have HQ6 := Lib.hid (HQ5.out.step hb6)
  have HW6 := Lib.hid (HW5.out.step hb6)
  have HG6 := Lib.hid (HGA.out.step hb6)
  have HB6 := Lib.hid (HB5.out.trans (hb6.mono HB5.out.size))
  refine hK.out _ _ HQ6.out (fun hS => ?_)
  clear hK K hb6 hn6
  (try simp only [hng]); (try dsimp only [Act.put]); (try simp only [hns])
  generalize World.alloc W5 _ = W6 at *
  refine headH_all (rs := [5]) (by kernel_rfl) (by simp) (by kernel_rfl) ?_; intro i0 hi0; simp only [List.mem_cons, List.not_mem_nil, or_false] at hi0; subst hi0
  refine headH_op rfl (fun K hK => ?_); (try simp only [hng]); go_simp
  have hparts := rkparts_any v r HVR.out.1 HVR.out.2.1 g gn (Vd.heap.size + 1) Vd.heap.size W5.heap.size 1 W6 HW6.out HG6.out HC6.out hl6
  unfold wkVal at hparts
  refine hparts.mono ?_
  rintro e W7 ⟨m, pa, pc, hM, rfl, hown7, hb7⟩
  dsimp only
  have HQ7 := Lib.hid (HQ6.out.step hb7)
  have HB7 := Lib.hid (HB6.out.trans (hb7.mono HB6.out.size))
  have HM := Lib.hid hM
  have HP7 := Lib.hid (prow_of hown7)
  refine hK.out _ _ HQ7.out (fun hS => ?_)
  clear hK K hparts hown7 hb7
  (try simp only [hng]); (try dsimp only [Act.put]); (try simp only [hns])
  refine headH_all (rs := [6]) (by kernel_rfl) (by simp) (by kernel_rfl) ?_; intro i0 hi0; simp only [List.mem_cons, List.not_mem_nil, or_false] at hi0; subst hi0
  refine headH_op rfl (fun K hK => ?_); (try simp only [hng]); go_simp
  have hch := chords_any (prN v r g (m + 1)) pa pc (v.nx * v.ny * v.nz) W7 HP7.out (prN_ok HVR.out.1 HVR.out.2.1 (gr_mod HVR.out.1 HVR.out.2.2) (m + 1)) (prN_many HVR.out.1 HVR.out.2.1 hM)
  generalize hLL : prN v r g (m + 1) = LL at *
  refine hch.mono ?_
  rintro e W8 ⟨ca, cc, rfl, hown8, hb8⟩
  dsimp only
  have HQ8 := Lib.hid (HQ7.out.step hb8)
  have HB8 := Lib.hid (HB7.out.trans (hb8.mono HB7.out.size))
  have HO8 := Lib.hid (own_base hown8 (show w.heap.size ≤ W7.heap.size from HB7.out.size))
  refine hK.out _ _ HQ8.out (fun hS => ?_)
  clear hK K hch hown8 hb8
  (try simp only [hng]); (try dsimp only [Act.put]); (try simp only [hns])
  refine headH_take (i := 7) (v := ?_) rfl (by kernel_rfl) (fun _ _ _ h => h) (Or.inl ⟨by rfl, ?_⟩) (by assumption) ?_; rotate_left; (· intro w' hSw; (try dsimp only at hSw); obtain ⟨c0, c1, c2, c3, c4, c5, c6, c7, c8, c9, c10, c11, c12, c13⟩ := cr14 hSw; (try simp only [hng]); go_simp; (try with_reducible rfl)); (try simp only [hng]); (try dsimp only [Act.put]); (try simp only [hns])
  change tailL _ _ _ _ _ _ _ _
  refine ⟨by kernel_rfl, ?_⟩
  simp only [List.drop_succ_cons, List.drop_zero]
  go_wp2
  refine bodyPost_ret (results_tmp2 (t := 6) (u := 7) rfl _ _ _) rfl ?_
  exact ⟨m, ca, cc, HM.out, by rw [hLL]; rfl, by rw [hLL]; exact HO8.out, HB8.out⟩
end Go.Proofs.YtkdopjkdokgipaaGreatDoor
