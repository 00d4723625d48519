/- The walk of the reference's Unpack where a file's head and check are right. -/
import Derived.Test.YtgcepjminlapiaaPackL
import Derived.Test.YtgcepjminlapiaaTakesLaw
namespace Go.Proofs.Ytgcepjminlapiaa
open Go.RowKit
set_option linter.unusedVariables false
set_option linter.unusedSimpArgs false
structure RS (w : World) (L : List HV) (v : Value) (W : World) : Prop where
  below : Below w.heap.size w W
  own : W.ownsRow w.heap.size 26 6 v L.length (hC L)
theorem RS.alloc {w : World} {L : List HV} {v : Value} {W : World} (h : RS w L v W) (o : Obj) : RS w L v (W.alloc o) := ⟨h.below.alloc h.below.size o, h.own.alloc o⟩
theorem RS.set {w : World} {L : List HV} {v : Value} {W : World} {nb j : Nat} {cur : Array Value} (h : RS w L v W) (hn : w.heap.size ≤ nb) (hh : W.heap[nb]? = some (.cells cur 123)) (u : Value) : RS w L v (W.setCell ⟨nb, j, none⟩ u) :=
  ⟨h.below.setCell (p := ⟨nb, j, none⟩) hn u, ownsRow_setCell_other h.own (own_off h.own hh (by decide)) u⟩
theorem rTake_both {a : Option Addr} {n c : Nat} {l : List Nat} {k : Nat} {w : World} {B : Nat} (hBw : B ≤ w.heap.size) (hn : l.length = n) (hb : Bytes B w a n (fun i => l.getD i 0)) (hl : ∀ x ∈ l, x < 256) (hm : n ≤ 2000) (hk : k ≤ n) :
    Calls Try.prog 73 #[.slice a n c, .int .i64 (k : Int)] w fun e w' => w = w' ∧ ((tkP l k = none ∧ ∃ x y : Int, e = .returned (.tuple #[.int .i64 x, .int .i64 y, .bool false])) ∨ ∃ (x k' : Nat), tkP l k = some (x, k') ∧ e = .returned (.tuple #[.int .i64 (x : Int), .int .i64 (k' : Int), .bool true])) :=
  (refTake_any a n c l k w B hBw hn hb hl hm hk).mono fun e w' ⟨hw, hr⟩ => ⟨hw, by
    cases ht : tkP l k with
    | none => rw [ht] at hr; exact .inl ⟨rfl, hr⟩
    | some q => rw [ht] at hr; exact .inr ⟨q.1, q.2, rfl, hr⟩⟩
theorem RS.app {w : World} {L : List HV} {v v' : Value} {W W' : World} (h : RS w L v W) {q : HV} (ho : W'.ownsRow w.heap.size 26 6 v' (L.length + 1) (hC L ++ q.cells)) (hg : W.grownBy W' v.ownBlock) : RS w (L ++ [q]) v' W' := by
  refine ⟨h.below.grown hg h.below.size (fun g e => (h.own.lt g e).1), ?_⟩
  have hl : (L ++ [q]).length = L.length + 1 := by simp
  rw [hC_append, hC_one, hl]
  exact ho
set_option maxRecDepth 100000 in
set_option maxHeartbeats 2000000 in
theorem refUnpack_head (b off n c : Nat) (f : Nat → Nat) (w : World) (hb : b < w.heap.size) (hc : ∀ i, i < n → w.cell? ⟨b, off + i, none⟩ = some (.int .u8 (f i : Int))) (hf : ∀ i, i < n → f i < 256) (h7 : 7 ≤ n) (hn : n ≤ 1000) (hnc : n ≤ c) (hcm : c ≤ maxLen) (hs : headOk f n) (l : List Nat) (hl : l.length = n - 2) (hlf : ∀ i, i < n - 2 → l.getD i 0 = f i) (E : Int) (L0 : List HV) (hE : (unpL l = none ∧ E = 4 ∧ L0 = []) ∨ ∃ L', unpL l = some L' ∧ ((packL L' = false ∧ E = 2 ∧ L0 = []) ∨ (packL L' = true ∧ E = 0 ∧ L0 = L'))) :
    Calls Try.prog 43 #[.slice (some ⟨b, off, none⟩) n c] w (UnpackRes w E L0) := by
  have hby : ∀ x ∈ l, x < 256 := fun x hx => by
    obtain ⟨i, hi, rfl⟩ := List.getElem_of_mem hx
    have e := hlf i (by omega)
    rw [List.getD_eq_getElem?_getD, List.getElem?_eq_getElem hi] at e
    have e2 : l[i] = f i := e
    rw [e2]; exact hf i (by omega)
  obtain ⟨⟨g0, g1, g2, g3⟩, s0, s1⟩ := hs
  (unfold maxLen at hcm; have h1 : ¬ (40000 : Int) < (n : Int) := (by omega); have h2 : ¬ (n : Int) - 2 < 5 := (by omega); have c0 : w.cell? ⟨b, off, none⟩ = some (.int .u8 (f 0 : Int)) := hc 0 (by omega); have c1 : w.cell? ⟨b, off + 1, none⟩ = some (.int .u8 (f 1 : Int)) := hc 1 (by omega); have c2 : w.cell? ⟨b, off + 2, none⟩ = some (.int .u8 (f 2 : Int)) := hc 2 (by omega); have c3 : w.cell? ⟨b, off + 3, none⟩ = some (.int .u8 (f 3 : Int)) := hc 3 (by omega); have q1 : (1 : Int) < (n : Int) := (by omega); have q2 : (2 : Int) < (n : Int) := (by omega); have q3 : (3 : Int) < (n : Int) := (by omega); have q0 : (0 : Int) < (n : Int) := (by omega))
  rw [g0] at c0
  rw [g1] at c1
  rw [g2] at c2
  rw [g3] at c3
  have p0 : w.cell? ⟨b, off + (n - 2), none⟩ = some (.int .u8 (f (n - 2) : Int)) := hc (n - 2) (by omega)
  have p1 : w.cell? ⟨b, off + (n - 1), none⟩ = some (.int .u8 (f (n - 1) : Int)) := hc (n - 1) (by omega)
  have HSM := Lib.hid (sum_any (some ⟨b, off, none⟩) (n - 2) c f w w.heap.size (Nat.le_refl _) (.inr ⟨b, off, rfl, hb, fun i hi => hc i (by omega)⟩) (fun i hi => hf i (by omega)) (by omega))
  have hck := chkN_lt f (n - 2)
  have hfa := hf (n - 2) (by omega)
  have hfb := hf (n - 1) (by omega)
  have HTK := Lib.hid (fun (W : World) (k : Nat) (hW : Below w.heap.size w W) (hk : k ≤ n - 2) => rTake_both (a := some ⟨b, off, none⟩) (c := c) (w := W) (k := k) hW.size hl ((show Bytes w.heap.size w (some ⟨b, off, none⟩) (n - 2) (fun i => l.getD i 0) from .inr ⟨b, off, rfl, hb, fun i hi => by dsimp only; rw [hlf i hi]; exact hc i (by omega)⟩).below hW) hby (by omega) hk)
  generalize chkN f (n - 2) = ck at *
  generalize f (n - 2) = fa at *
  generalize f (n - 1) = fb at *
  clear hc hf g0 g1 g2 g3 hlf
  (have i4 : ((n : Int) - 2).toNat = n - 2 := (by omega); have i8 : (n : Int) ≤ (c : Int) := (by omega); have i9 : (n : Int) - 2 < (n : Int) := (by omega); have i7 : ((n : Int) - 2 + 1).toNat = n - 1 := (by omega); have i6 : (n : Int) - 2 + 1 < (n : Int) := (by omega); have i5 : (0 : Int) ≤ (n : Int) - 2 := (by omega); have i3 : (0 : Int) ≤ (n : Int) - 2 + 1 := (by omega); have i2 : (n : Int) - 2 ≤ (c : Int) := (by omega))
  have z0 : (fa : Int) = (ck : Int) / 256 := by omega
  have z1 : ((fa : Int) != (ck : Int) / 256) = false := by rw [z0]; simp
  have z2 : ((fb : Int) != (ck : Int) % 256) = false := by rw [show (fb : Int) = (ck : Int) % 256 by omega]; simp
  clear z0
  have HR1 := Lib.hid (fun (e : Ending) (w' : World) (hn : unpL l = none) (he : e = .returned (.tuple #[.slice none 0 0, .int .i64 4])) (hb : Below w.heap.size w w') => show UnpackRes w E L0 e w' from by
    rcases hE with ⟨_, rfl, rfl⟩ | ⟨L', h, _⟩
    · exact unpackRes_nil he hb
    · rw [hn] at h; cases h)
  have HR2 := Lib.hid (fun (e : Ending) (w' : World) (L : List HV) (hn : unpL l = some L) (hp : packL L = false) (he : e = .returned (.tuple #[.slice none 0 0, .int .i64 2])) (hb : Below w.heap.size w w') => show UnpackRes w E L0 e w' from by
    rcases hE with ⟨h, _⟩ | ⟨L', h, ⟨_, rfl, rfl⟩ | ⟨h2, _⟩⟩
    · rw [hn] at h; cases h
    · exact unpackRes_nil he hb
    · rw [hn] at h; injection h with h; subst h; rw [hp] at h2; cases h2)
  have HR3 := Lib.hid (fun (e : Ending) (w' : World) (L : List HV) (a : Option Addr) (c : Nat) (hn : unpL l = some L) (hp : packL L = true) (he : e = .returned (.tuple #[.slice a L.length c, .int .i64 0])) (hb : Below w.heap.size w w') (ho : w'.ownsRow w.heap.size 26 6 (.slice a L.length c) L.length (hC L)) => show UnpackRes w E L0 e w' from by
    rcases hE with ⟨h, _⟩ | ⟨L', h, ⟨h2, _⟩ | ⟨_, rfl, rfl⟩⟩
    · rw [hn] at h; cases h
    · rw [hn] at h; injection h with h; subst h; rw [hp] at h2; cases h2
    · rw [hn] at h; injection h with h; subst h; exact ⟨a, c, he, ho, hb⟩)
  generalize hRes : UnpackRes w E L0 = Res at *
  have HL := Lib.hid hl
  have HBY := Lib.hid hby
  clear hRes hE s0 s1 hl hby
  go_enter Try.func43, Try.ntmps43
  go_upto_region 10 with (go_at_call 71; refine HSM.out.mono ?_; rintro e wy ⟨rfl, rfl⟩)
  clear c0 c1 c2 c3 p0 p1 z1 z2 q0 q1 q2 q3 i4 i8 i9 i7 i6 i5 i3 i2 hfa hfb hck HSM
  have hn2 : (4 : Nat) ≤ n - 2 := by omega
  go_upto_region 13 with (go_at_call 73; refine (HTK.out _ 4 (Below.refl _ _) hn2).mono ?_; rintro e wy ⟨rfl, (⟨t, x, y, rfl⟩ | ⟨many, k0, t, rfl⟩)⟩; (· (have H4 := Lib.hid (unpL_none1 t); clear t; go_wp2; (try go_ret2); exact HR1.out _ _ H4.out rfl (Below.refl _ _))); have H4 := Lib.hid t; clear t)
  obtain ⟨hmany, hk04, hk0⟩ := tkP_fits HBY.out H4.out
  rw [HL.out] at hk0
  go_wp2
  go_loopw [8, 9, 10, 11, 12] (fun s8 s9 s10 s11 s12 wr => ∃ (L : List HV) (va : Option Addr) (vc : Nat) (last : Int) (k : Nat), s8 = .int .i64 (k : Int) ∧ s9 = .bool true ∧ s10 = .slice va L.length vc ∧ s11 = .int .i64 last ∧ s12 = .int .i64 (L.length : Int) ∧ Hid (HsInv l many k0 L last k) ∧ (6 * L.length ≤ k ∧ k ≤ n - 2 ∧ -(34359738368 * (L.length : Int)) ≤ last ∧ last ≤ 34359738368 * (L.length : Int)) ∧ Hid (RS w L (.slice va L.length vc) wr)) (fun _ _ _ _ s12 _ => many - (intOf s12).toNat)
  case atStart => exact ⟨[], none, 0, 0, k0, rfl, rfl, rfl, rfl, rfl, Lib.hid (hs_start _ _ _), ⟨by simp, hk0, by simp, by simp⟩, Lib.hid ⟨Below.refl _ _, World.ownsRow_nil _ _ _ _⟩⟩
  case round =>
    obtain ⟨wo, rfl⟩ : ∃ wo : World, wo = wr := ⟨_, rfl⟩
    obtain ⟨L, va, vc, last, k, rfl, rfl, rfl, rfl, rfl, HI, ⟨hL1, hL4, hL2, hL3⟩, HS⟩ := hrel
    have hLl : L.length ≤ 1000 := by omega
    by_cases hlt : L.length < many
    · have hlt' : (L.length : Int) < (many : Int) := by omega
      have hwz := HS.out.below.size
      go_wp2
      go_loopw [8, 9, 14] (fun s8 s9 s14 wx => ∃ (j kj : Nat) (ys : Nat → Nat), j ≤ 6 ∧ s14 = .int .i64 (j : Int) ∧ s8 = .int .i64 (kj : Int) ∧ s9 = .bool true ∧ kj ≤ n - 2 ∧ Hid (TakesInv l k j ys kj) ∧ Hid (wx.heap[wo.heap.size]? = some (.cells (xArr ys) 123) ∧ RS w L (.slice va L.length vc) wx)) (fun _ _ s14 _ => 6 - (intOf s14).toNat)
      case atStart => exact ⟨0, k, fun _ => 0, by omega, rfl, rfl, rfl, hL4, Lib.hid (takes_start _ _ _), Lib.hid ⟨heapQ_new rfl, HS.out.alloc _⟩⟩
      case round =>
        obtain ⟨j, kj, ys, hj, rfl, rfl, rfl, hkj, HTI, HX⟩ := hrel
        by_cases hjt : j < 6
        · have e1 : wr.cell? ⟨wo.heap.size, j, none⟩ = some (.int .i64 (ys j : Int)) := (cell_of_row _ _ _ _ _ _ HX.out.1).trans (xArr_get hjt)
          have e2 : wr.frozen? ⟨wo.heap.size, j, none⟩ = false := frozen_of_row _ _ _ _ _ HX.out.1
          have hjt' : (j : Int) < 6 := by omega
          generalize ys j = yj at e1
          go_wp2_with (go_at_call 73; refine (HTK.out _ kj HX.out.2.below hkj).mono ?_; rintro e wy ⟨rfl, (⟨t, x, y, rfl⟩ | ⟨x, k', t, rfl⟩)⟩; (· (have HF := Lib.hid (unpL_none2 H4.out (hs_fail HI.out hlt (takes_fail HTI.out hjt t last))); clear t; go_wp2; (try go_ret2); exact HR1.out _ _ HF.out rfl (HX.out.2.below.setCell (p := ⟨wo.heap.size, j, none⟩) hwz _))); have HT := Lib.hid t; clear t)
          go_roundw
          case rel =>
            have hkk := (tkP_fits HBY.out HT.out).2.2
            rw [HL.out] at hkk
            exact ⟨j + 1, k', upd ys j x, by omega, by go_num, rfl, rfl, hkk, Lib.hid (takes_step HTI.out HT.out), Lib.hid ⟨by rw [heap_setCell_same _ _ _ _ _ _ HX.out.1, xArr_set hjt], HX.out.2.set hwz HX.out.1 _⟩⟩
          case measure => simp [intOf]; omega
        · obtain rfl : 6 = j := by omega
          have hx0 : wr.cell? ⟨wo.heap.size, 0, none⟩ = some (.int .i64 (ys 0 : Int)) := (cell_of_row _ _ _ _ _ _ HX.out.1)
          have hx1 : wr.cell? ⟨wo.heap.size, 1, none⟩ = some (.int .i64 (ys 1 : Int)) := (cell_of_row _ _ _ _ _ _ HX.out.1)
          have hx2 : wr.cell? ⟨wo.heap.size, 2, none⟩ = some (.int .i64 (ys 2 : Int)) := (cell_of_row _ _ _ _ _ _ HX.out.1)
          have hx3 : wr.cell? ⟨wo.heap.size, 3, none⟩ = some (.int .i64 (ys 3 : Int)) := (cell_of_row _ _ _ _ _ _ HX.out.1)
          have hx4 : wr.cell? ⟨wo.heap.size, 4, none⟩ = some (.int .i64 (ys 4 : Int)) := (cell_of_row _ _ _ _ _ _ HX.out.1)
          have hx5 : wr.cell? ⟨wo.heap.size, 5, none⟩ = some (.int .i64 (ys 5 : Int)) := (cell_of_row _ _ _ _ _ _ HX.out.1)
          obtain ⟨b1, b2, b3⟩ := takes_bounds HBY.out (by rw [HL.out]; exact hL4) HTI.out
          have b5 := b3 5 (by omega)
          have HI2 := Lib.hid (hs_step HI.out hlt (takes_six HTI.out last))
          have HUB := Lib.hid (unzig_bound b5)
          clear b3
          generalize ys 0 = y0 at *
          generalize ys 1 = y1 at *
          generalize ys 2 = y2 at *
          generalize ys 3 = y3 at *
          generalize ys 4 = y4 at *
          generalize ys 5 = y5 at *
          have HRS := Lib.hid HX.out.2
          have hwx := HRS.out.below.size
          clear HX HTI
          obtain ⟨lu, hlu⟩ : ∃ y, y = last + unzig (y5 : Int) := ⟨_, rfl⟩
          rw [← hlu] at HI2
          have HLU := Lib.hid hlu
          clear hlu
          obtain ⟨i0, hi, hz0, hz1, hz2⟩ := info_parts info_hit
          have hb63 : L.length + 1 ≤ maxLen := by unfold maxLen; omega
          have hb47 : (L.length + 1) * 48 ≤ 140737488355328 := by omega
          have HB22 := Lib.hid (show ∀ o, w.heap.size ≤ (wr.alloc o).heap.size from fun o => by simp; omega)
          have EL := Lib.hid (show ∀ q : HV, (L ++ [q]).length = L.length + 1 from fun q => by simp)
          have HRL := Lib.hid (show -(34359738368 * ((L.length : Int) + 1)) ≤ lu ∧ lu ≤ 34359738368 * ((L.length : Int) + 1) from by have := HUB.out; have := HLU.out; omega)
          by_cases hd : y5 % 2 = 0
          · have hd' : ((y5 : Int) % 2 == 1) = false := by rw [beq_eq_false_iff_ne]; omega
            have HZ := Lib.hid (show last + (y5 : Int) / 2 = lu by rw [HLU.out, unzig, if_pos (by omega)])
            (go_wp2_with (at_builtin; refine wpList_append_own _ rfl _ _ 65 rfl w.heap.size 26 i0 _ 6 48 Try.underlying65 hi hz0 hz1 hz2 rfl (by decide) _ L.length (hC L) rfl (HRS.out.own.alloc _) ⟨wr.heap.size, 0, none⟩ 1 1 (HV.cells ⟨(y0 : Int), (y1 : Int), (y2 : Int), (y3 : Int), (y4 : Int), last + (y5 : Int) / 2⟩) rfl rfl cells_new hv_one hb63 hb47 (HB22.out _) ?_; intro v' w6 hown6 hgrow6 hnil6; obtain ⟨a6, c6, rfl⟩ := own_len hown6; rw [HZ.out] at hown6; have HQ := Lib.hid (RS.app (HRS.out.alloc _) hown6 hgrow6); clear hown6 hgrow6 hnil6); go_roundw; (case rel => exact ⟨L ++ [⟨(y0 : Int), (y1 : Int), (y2 : Int), (y3 : Int), (y4 : Int), lu⟩], a6, c6, lu, kj, rfl, rfl, by rw [EL.out], by rw [HZ.out], by rw [EL.out]; simp, HI2, by (rw [EL.out]; exact ⟨by omega, hkj, by simpa using HRL.out.1, by simpa using HRL.out.2⟩), Lib.hid (by rw [EL.out]; exact HQ.out)⟩); (case measure => simp [intOf]; omega))
          · have hd' : ((y5 : Int) % 2 == 1) = true := by rw [beq_iff_eq]; omega
            have HZ := Lib.hid (show last + (-((y5 : Int) / 2) - 1) = lu by rw [HLU.out, unzig, if_neg (by omega)]; omega)
            (go_wp2_with (at_builtin; refine wpList_append_own _ rfl _ _ 65 rfl w.heap.size 26 i0 _ 6 48 Try.underlying65 hi hz0 hz1 hz2 rfl (by decide) _ L.length (hC L) rfl (HRS.out.own.alloc _) ⟨wr.heap.size, 0, none⟩ 1 1 (HV.cells ⟨(y0 : Int), (y1 : Int), (y2 : Int), (y3 : Int), (y4 : Int), last + (-((y5 : Int) / 2) - 1)⟩) rfl rfl cells_new hv_one hb63 hb47 (HB22.out _) ?_; intro v' w6 hown6 hgrow6 hnil6; obtain ⟨a6, c6, rfl⟩ := own_len hown6; rw [HZ.out] at hown6; have HQ := Lib.hid (RS.app (HRS.out.alloc _) hown6 hgrow6); clear hown6 hgrow6 hnil6); go_roundw; (case rel => exact ⟨L ++ [⟨(y0 : Int), (y1 : Int), (y2 : Int), (y3 : Int), (y4 : Int), lu⟩], a6, c6, lu, kj, rfl, rfl, by rw [EL.out], by rw [HZ.out], by rw [EL.out]; simp, HI2, by (rw [EL.out]; exact ⟨by omega, hkj, by simpa using HRL.out.1, by simpa using HRL.out.2⟩), Lib.hid (by rw [EL.out]; exact HQ.out)⟩); (case measure => simp [intOf]; omega))
    · have hlt' : ¬ (L.length : Int) < (many : Int) := by omega
      have HE := Lib.hid (unpL_some H4.out (hs_end HI.out (by omega)))
      by_cases hk : k = n - 2
      · have hk' : ((k : Int) == ((n - 2 : Nat) : Int)) = true := by rw [beq_iff_eq]; omega
        have HE2 := Lib.hid (HE.out.trans (if_pos (by rw [HL.out]; exact hk)))
        have hl20 : ¬ (2000 : Int) < (L.length : Int) := by omega
        have HHi := Lib.hid (own_hits HS.out.own (by unfold maxLen; omega)).2.2
        clear hk HE HI
        cases hp : packL L
        · have HP := Lib.hid hp
          clear hp
          go_wp2_with (go_at_call 38; refine (Packed_any va L.length vc (fun i => L.getD i hv0) _ wo.heap.size (Nat.le_refl _) HHi.out).mono ?_; rintro e wz ⟨rfl, hbz⟩; rw [show packB L.length (fun i => L.getD i hv0) = false from HP.out])
          (try go_ret2)
          exact HR2.out _ _ L HE2.out HP.out rfl (HS.out.below.trans (hbz.mono HS.out.below.size))
        · have HP := Lib.hid hp
          clear hp
          go_wp2_with (go_at_call 38; refine (Packed_any va L.length vc (fun i => L.getD i hv0) _ wo.heap.size (Nat.le_refl _) HHi.out).mono ?_; rintro e wz ⟨rfl, hbz⟩; rw [show packB L.length (fun i => L.getD i hv0) = true from HP.out])
          (try go_ret2)
          exact HR3.out _ _ L va vc HE2.out HP.out rfl (HS.out.below.trans (hbz.mono HS.out.below.size)) (own_below HS.out.own hbz)
      · have hk' : ((k : Int) == ((n - 2 : Nat) : Int)) = false := by rw [beq_eq_false_iff_ne]; omega
        have HE2 := Lib.hid (HE.out.trans (if_neg (by rw [HL.out]; exact hk)))
        clear hk HE HI
        go_wp2
        (try go_ret2)
        exact HR1.out _ _ HE2.out rfl HS.out.below
theorem refUnpack_any (a : Option Addr) (n c : Nat) (f : Nat → Nat) (w : World) (B : Nat) (hBw : B ≤ w.heap.size) (hB : Bytes B w a n f) (hf : ∀ i, i < n → f i < 256) (hnc : n ≤ c) (hcm : c ≤ maxLen)
    (l : List Nat) (hl : l.length = n - 2) (hlf : ∀ i, i < n - 2 → l.getD i 0 = f i) (E : Int) (L : List HV) (hE : UnpackIs n f l E L) : Calls Try.prog 43 #[.slice a n c] w (UnpackRes w E L) := by
  rcases hE with ⟨h1, rfl, rfl⟩ | ⟨h0, h1, rfl, rfl⟩ | ⟨h0, h1, h2, rfl, rfl⟩ | ⟨h0, h1, h2, h3⟩
  · exact (refUnpack_long a n c w h1 (by omega)).mono fun e w' ⟨he, hb⟩ => unpackRes_nil he hb
  · exact (refUnpack_short a n c w h1).mono fun e w' ⟨he, hb⟩ => unpackRes_nil he hb
  · rcases hB with e0 | ⟨b, off, rfl, hbB, hc⟩
    · omega
    · by_cases hm : f 0 = 79 ∧ f 1 = 86 ∧ f 2 = 69 ∧ f 3 = 49
      · exact (refUnpack_sum b off n c f w (by omega) hc hf h1 h0 hnc hcm hm.1 hm.2.1 hm.2.2.1 hm.2.2.2 (fun h => h2 ⟨hm, h⟩)).mono fun e w' ⟨he, hb⟩ => unpackRes_nil he hb
      · exact (refUnpack_magic b off n c f w (by omega) hc hf h1 h0 hnc hcm hm).mono fun e w' ⟨he, hb⟩ => unpackRes_nil he hb
  · rcases hB with e0 | ⟨b, off, rfl, hbB, hc⟩
    · omega
    · exact refUnpack_head b off n c f w (by omega) hc hf h1 h0 hnc hcm h2 l hl hlf E L h3
end Go.Proofs.Ytgcepjminlapiaa
