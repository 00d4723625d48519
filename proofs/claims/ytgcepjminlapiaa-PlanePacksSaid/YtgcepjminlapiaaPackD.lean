/- The walk of the reference's Pack. -/
import Derived.Test.YtgcepjminlapiaaPackC
import Derived.Deep.RegionHeld3
namespace Go.Proofs.Ytgcepjminlapiaa
open Go.RowKit
set_option linter.unusedVariables false
set_option linter.unusedSimpArgs false
abbrev Q1 (b : Nat) (A : Array Value) (w w' : World) : Prop := (∀ j, w'.cell? ⟨b, j, none⟩ = A[j]?) ∧ b < w'.heap.size ∧ Below (b + 1) w w'
theorem Q1_alloc {b : Nat} {A : Array Value} {w W : World} (h : Q1 b A w W) (o : Obj) : Q1 b A w (W.alloc o) :=
  ⟨fun j => (((Below.refl W.heap.size W).alloc (Nat.le_refl _) o).cell (p := ⟨b, j, none⟩) h.2.1).trans (h.1 j), by have := h.2.1; simp; omega, h.2.2.alloc h.2.1 o⟩
theorem Q1_drew {b : Nat} {A : Array Value} {w W : World} (h : Q1 b A w W) : Q1 b A w W.drew := ⟨h.1, h.2.1, h.2.2.drew⟩
def RPackRes (w : World) (l : List Nat) (e : Ending) (w' : World) : Prop := ∃ a c, e = .returned (.slice a l.length c) ∧ w'.ownsRow w.heap.size 5 1 (.slice a l.length c) l.length (bC l) ∧ Below w.heap.size w w'
set_option maxRecDepth 100000 in
set_option maxHeartbeats 2000000 in
theorem refPack_any (a : Option Addr) (m d : Nat) (hs : Nat → HV) (w : World) (B : Nat) (hBw : B ≤ w.heap.size) (hH : Hits B w a m hs) (hm : m ≤ 30) (hp : packB m hs = true) :
    Calls Try.prog 40 #[.slice a m d] w (RPackRes w (fileN m hs)) := by
  have hpa : ∀ i, i < m → packableB (hs i) = true := allUpto_iff.1 hp
  have HH := Lib.hid hH
  have HPA := Lib.hid hpa
  have HBL := Lib.hid (fun k (hk : k ≤ m) => bodyN_len hpa (show m ≤ 2000 by omega) hk)
  have HLT := Lib.hid (fun k hk => lastT_le hpa k hk)
  have HB0 := Lib.hid (show bodyN m hs 0 = [79, 86, 69, 49] ++ grp m by simp [bodyN, packN])
  have HBS := Lib.hid (fun k => show bodyN m hs (k + 1) = bodyN m hs k ++ packJ (lastT hs k) (hs k) 6 by rw [packJ_six]; simp [bodyN, packN])
  have HFN := Lib.hid (show fileN m hs = bodyN m hs m ++ [chkL (bodyN m hs m) / 256, chkL (bodyN m hs m) % 256] from rfl)
  have HL0 := Lib.hid (show lastT hs 0 = 0 from rfl)
  have HLS := Lib.hid (fun k => show lastT hs (k + 1) = (hs k).time from rfl)
  have HBY := Lib.hid (fun k => @bodyN_byte m hs k)
  have hg5 := grp_le5 (n := m) (by omega)
  obtain ⟨i0, hi, hz0, hz1, hz2⟩ := info_parts info_u8
  generalize fileN m hs = FN at *
  generalize bodyN m hs = BN at *
  generalize lastT hs = LT at *
  clear hH hpa hp
  go_enter Try.func40, Try.ntmps40
  go_upto_region 2 with (first | (go_at_call 69; refine (group_any m (by omega) _).mono ?_; rintro e wy ⟨g, gc, rfl, hgc, hby⟩; have hown0 := own_below (head_own (w := w) (t := 5)) hby; have hb0 : Below w.heap.size w wy := ((Below.refl _ _).alloc (Nat.le_refl _) _).trans (hby.mono (by simp)); clear hby) | (at_builtin; refine wpList_append_own _ rfl _ _ 70 rfl w.heap.size 5 i0 (.int .u8 0) 1 1 Try.underlying70 hi hz0 hz1 hz2 rfl (by decide) _ 4 (bC [79, 86, 69, 49]) rfl hown0 ⟨g, 0, none⟩ (grp m).length gc (bC (grp m)) rfl (by rw [bC_len, Nat.mul_one]) hgc (fun u hu => by obtain ⟨_, _, rfl⟩ := List.mem_map.1 hu; rfl) (by unfold maxLen; omega) (by omega) hb0.size ?_; intro v' w6 hown6 hgrow6 hnil6; obtain ⟨a6, c6, rfl⟩ := own_len hown6; have hb6 : Below w.heap.size w w6 := hb0.grown hgrow6 hb0.size (fun g hg => (hown0.lt g hg).1); clear hgc hgrow6 hnil6 hown0))
  have HO0 : Hid (w6.ownsRow w.heap.size 5 1 (.slice a6 (BN 0).length c6) (BN 0).length (bC (BN 0)) ∧ 4 + (grp m).length = (BN 0).length) := Lib.hid ⟨by rw [HB0.out, bC_append, head_len]; exact hown6, by rw [HB0.out, head_len]⟩
  clear hown6
  have e0 := HO0.out.2
  rw [e0]
  clear e0
  go_wp2
  go_loopw [3, 4, 5] (fun s3 s4 t wr => ∃ k : Nat, k ≤ m ∧ t = .int .i64 (k : Int) ∧ s4 = .int .i64 (LT k) ∧ (∃ av cv, s3 = .slice av (BN k).length cv ∧ wr.ownsRow w.heap.size 5 1 (.slice av (BN k).length cv) (BN k).length (bC (BN k))) ∧ Below w.heap.size w wr) (fun _ _ t _ => m - (intOf t).toNat)
  case atStart => exact ⟨0, Nat.zero_le _, rfl, by rw [HL0.out], ⟨a6, c6, rfl, HO0.out.1⟩, hb6⟩
  case round =>
    clear HO0 hb6
    obtain ⟨wo, rfl⟩ : ∃ wo : World, wo = wr := ⟨_, rfl⟩
    obtain ⟨k, hk, rfl, rfl, ⟨av, cv, rfl, hown⟩, hbl⟩ := hrel
    obtain ⟨lt1, lt2⟩ := HLT.out k hk
    have hlen := HBL.out k hk
    by_cases hlt : k < m
    · obtain ⟨b, off, rfl, hbB, y0, y1, y2, y3, y4, y5⟩ := (HH.out.below (hbl.mono hBw)).get hlt
      have hbz : b < wo.heap.size := by have := hbl.size; omega
      have hpk := HPA.out k hlt
      have hBS := HBS.out k
      have hLS := HLS.out k
      generalize hs k = h at *
      generalize LT k = last at *
      have HBk := Lib.hid hBS
      have HLk := Lib.hid hLS
      have HPK := Lib.hid hpk
      clear hBS hLS hpk
      obtain ⟨a1, a2, a3, a4, a5, a6⟩ := packable_iff.1 HPK.out
      have HO := Lib.hid hown
      clear hown
      obtain ⟨X, hX⟩ : ∃ X : Array Value, X = #[.int .i64 h.plane, .int .i64 h.channel, .int .i64 h.many, .int .i64 h.drift, .int .i64 h.charge, .int .i64 (zig (h.time - last))] := ⟨_, rfl⟩
      have HXn := Lib.hid (show ∀ j, j < 6 → X[j]? = some (.int .i64 (hn last h j : Int)) by
        intro j hj
        have hzz := zig_nonneg (h.time - last)
        subst hX
        match j, hj with
        | 0, _ | 1, _ | 2, _ | 3, _ | 4, _ | 5, _ => simp [hn] <;> omega)
      have HX := Lib.hid hX
      clear hX
      go_upto_region 7 with (fail)
      have aw : IntKind.i64.wrap (h.time - last) = h.time - last := IntWalk.i64_in _ (by omega)
      go_cut [7] from 25 to 40 (fun s7 wx => ∃ x, s7 = .slice (some ⟨x, 0, none⟩) 6 6 ∧ wx.heap[x]? = some (.cells X 3) ∧ wx.heap[wo.heap.size]? = some (.cells #[.int .i64 h.plane, .int .i64 h.channel, .int .i64 h.many, .int .i64 h.drift, .int .i64 h.charge, .int .i64 h.time] 26) ∧ Below wo.heap.size wo wx)
      case first =>
        have hd : -4000000000 ≤ h.time - last ∧ h.time - last ≤ 4000000000 := ⟨by omega, by omega⟩
        have hS0 : Q1 wo.heap.size #[.int .i64 h.plane, .int .i64 h.channel, .int .i64 h.many, .int .i64 h.drift, .int .i64 h.charge, .int .i64 h.time] (wo.alloc (.cells #[.int .i64 h.plane, .int .i64 h.channel, .int .i64 h.many, .int .i64 h.drift, .int .i64 h.charge, .int .i64 h.time] 26)) (wo.alloc (.cells #[.int .i64 h.plane, .int .i64 h.channel, .int .i64 h.many, .int .i64 h.drift, .int .i64 h.charge, .int .i64 h.time] 26)) := ⟨fun j => cell_of_row _ _ _ _ _ _ (heapQ_new rfl), by simp, Below.refl _ _⟩
        have HB1 := Lib.hid (show Below wo.heap.size wo (wo.alloc (.cells #[.int .i64 h.plane, .int .i64 h.channel, .int .i64 h.many, .int .i64 h.drift, .int .i64 h.charge, .int .i64 h.time] 26)) ∧ (wo.alloc (.cells #[.int .i64 h.plane, .int .i64 h.channel, .int .i64 h.many, .int .i64 h.drift, .int .i64 h.charge, .int .i64 h.time] 26)).heap[wo.heap.size]? = some (.cells #[.int .i64 h.plane, .int .i64 h.channel, .int .i64 h.many, .int .i64 h.drift, .int .i64 h.charge, .int .i64 h.time] 26) from ⟨(Below.refl _ _).alloc (Nat.le_refl _) _, heapQ_new rfl⟩)
        generalize wo.alloc (.cells #[.int .i64 h.plane, .int .i64 h.channel, .int .i64 h.many, .int .i64 h.drift, .int .i64 h.charge, .int .i64 h.time] 26) = wv at *
        clear y0 y1 y2 y3 y4 y5
        go_region_held3 (fun w' => (∀ j, w'.cell? ⟨wo.heap.size, j, none⟩ = (#[.int .i64 h.plane, .int .i64 h.channel, .int .i64 h.many, .int .i64 h.drift, .int .i64 h.charge, .int .i64 h.time] : Array Value)[j]?) ∧ wo.heap.size < w'.heap.size ∧ Below (wo.heap.size + 1) wv w') (first | (repeat (first | (with_reducible assumption) | (with_reducible refine Q1_drew ?_) | (with_reducible refine Q1_alloc ?_ _)))) (first | (go_at_call 70; refine (signed_any _ _ hd).mono ?_; rintro e wy ⟨rfl, rfl⟩))
        all_goals (go_wp2_with fail)
        all_goals go_meet
        have hzv : wo.heap.size < wv.heap.size := hS0.2.1
        exact ⟨wv.heap.size, rfl, (heapQ_new rfl).trans (by rw [HX.out]), (heapQ_old hzv).trans HB1.out.2, (HB1.out.1.alloc HB1.out.1.size _).drew⟩
      clear aw
      obtain ⟨x, rfl, hx, hh, hBc⟩ := hcut
      have HO2 := Lib.hid (own_below HO.out hBc)
      have hbl1 : Below w.heap.size w wc := hbl.trans (hBc.mono hbl.size)
      have HXH := Lib.hid (And.intro hx hh)
      clear hx hh hBc HO y0 y1 y2 y3 y4 y5
      go_wp2
      go_loopw [3, 8] (fun s3 t wx => ∃ j : Nat, j ≤ 6 ∧ t = .int .i64 (j : Int) ∧ (∃ av cv L, Hid (L = BN k ++ packJ last h j) ∧ s3 = .slice av L.length cv ∧ wx.ownsRow w.heap.size 5 1 (.slice av L.length cv) L.length (bC L)) ∧ Hid (wx.heap[x]? = some (.cells X 3) ∧ wx.heap[wo.heap.size]? = some (.cells #[.int .i64 h.plane, .int .i64 h.channel, .int .i64 h.many, .int .i64 h.drift, .int .i64 h.charge, .int .i64 h.time] 26)) ∧ Below w.heap.size w wx) (fun _ t _ => 6 - (intOf t).toNat)
      case atStart => exact ⟨0, by omega, rfl, ⟨av, cv, BN k, Lib.hid (by simp [packJ]), rfl, HO2.out⟩, HXH, hbl1⟩
      case round =>
        clear HO2 HXH hbl1
        obtain ⟨j, hj, rfl, ⟨au, cu, L, HL, rfl, hown⟩, HXH, hbl2⟩ := hrel
        have hxz : x < wr.heap.size := (Array.getElem?_eq_some_iff.1 HXH.out.1).1
        have hwz : wo.heap.size < wr.heap.size := (Array.getElem?_eq_some_iff.1 HXH.out.2).1
        have hpl := packJ_len HPK.out lt1 lt2 j
        have hLn : L.length ≤ 2000 := by rw [HL.out, List.length_append]; omega
        by_cases hjt : j < 6
        · have c0 : wr.cell? ⟨x, j, none⟩ = some (.int .i64 (hn last h j : Int)) := (cell_of_row _ _ _ _ _ _ HXH.out.1).trans (HXn.out j hjt)
          have hnf := hn_fits HPK.out lt1 lt2 j
          have hn5 := grp_le5 hnf
          have HPS := Lib.hid (show packJ last h (j + 1) = packJ last h j ++ grp (hn last h j) from rfl)
          have HOW := Lib.hid hown
          clear hown hpl
          generalize hn last h j = nj at *
          go_wp2_with (first | (go_at_call 69; (with_reducible refine (group_any nj hnf _).mono ?_); rintro e wy ⟨g, gc, rfl, hgc, hby⟩; have hown0 := own_below HOW.out hby; have hb0 : Below w.heap.size w wy := hbl2.trans (hby.mono hbl2.size); have HBY2 := Lib.hid hby; clear hby) | (at_builtin; refine wpList_append_own _ rfl _ _ 70 rfl w.heap.size 5 i0 (.int .u8 0) 1 1 Try.underlying70 hi hz0 hz1 hz2 rfl (by decide) _ L.length (bC L) rfl hown0 ⟨g, 0, none⟩ (grp nj).length gc (bC (grp nj)) rfl (by rw [bC_len, Nat.mul_one]) hgc (fun u hu => by obtain ⟨_, _, rfl⟩ := List.mem_map.1 hu; rfl) (by unfold maxLen; omega) (by omega) hb0.size ?_; intro v' w6 hown6 hgrow6 hnil6; obtain ⟨a7, c7, rfl⟩ := own_len hown6; have hb6 : Below w.heap.size w w6 := hb0.grown hgrow6 hb0.size (fun g hg => (hown0.lt g hg).1); have hkt := (KeepT.below HBY2.out).trans (KeepT.own hown0 hgrow6); clear hgc hgrow6 hnil6 hown0))
          go_roundw
          case rel =>
            refine ⟨j + 1, by omega, by go_num, ⟨a7, c7, L ++ grp nj, Lib.hid (by rw [HPS.out, HL.out, List.append_assoc]), ?_, ?_⟩, Lib.hid ⟨?_, ?_⟩, hb6⟩
            · rw [List.length_append]
            · rw [List.length_append, bC_append]; exact hown6
            · rw [hkt.2 _ hxz (fun cur f => by rw [HXH.out.1]; intro e; injection e with e; injection e with _ e; exact absurd e (by decide))]
              exact HXH.out.1
            · rw [hkt.2 _ hwz (fun cur f => by rw [HXH.out.2]; intro e; injection e with e; injection e with _ e; exact absurd e (by decide))]
              exact HXH.out.2
          case measure => simp [intOf]; omega
        · obtain rfl : 6 = j := by omega
          have HOW := Lib.hid hown
          have eB : L = BN (k + 1) := HL.out.trans HBk.out.symm
          subst eB
          have q5 : wr.cell? ⟨wo.heap.size, 5, none⟩ = some (.int .i64 h.time) := cell_of_row _ _ _ _ _ _ HXH.out.2
          clear hown hLn
          go_wp2
          go_roundw
          case rel => exact ⟨k + 1, by omega, by go_num, by rw [HLk.out], ⟨au, cu, rfl, HOW.out⟩, hbl2⟩
          case measure => simp [intOf]; omega
    · obtain rfl : m = k := by omega
      obtain ⟨_, _, hBy⟩ := own_bytes hown
      have HBy := Lib.hid hBy
      have HO := Lib.hid hown
      have HCL := Lib.hid (show chkN (fun i => (BN m).getD i 0) (BN m).length = chkL (BN m) from rfl)
      have HBT := Lib.hid (fun i (hi : i < (BN m).length) => getD_byte (HBY.out m) i)
      have HCK := Lib.hid (show chkL (BN m) < 65521 from chkN_lt _ _)
      have hlen2 : (BN m).length ≤ 2000 := by omega
      clear hBy hown
      go_upto_region 14 with (go_at_call 71; refine (sum_any av (BN m).length cv (fun i => (BN m).getD i 0) _ wo.heap.size (Nat.le_refl _) HBy.out HBT.out hlen2).mono ?_; rintro e wz ⟨rfl, rfl⟩; rw [HCL.out])
      generalize chkL (BN m) = CK at *
      have hck := HCK.out
      have b2 : (CK : Int) / 256 % 256 = (CK : Int) / 256 := by omega
      have b3 : (CK : Int) % 256 % 256 = (CK : Int) % 256 := by omega
      have hb63 : (BN m).length + 2 ≤ maxLen := by unfold maxLen; omega
      have hb47 : ((BN m).length + 2) * 1 ≤ 140737488355328 := by omega
      have hb22 : ∀ o, w.heap.size ≤ (wo.alloc o).heap.size := fun o => by have := hbl.size; simp; omega
      have HB22 := Lib.hid hb22
      clear hb22
      go_wp2_with (at_builtin; refine wpList_append_own _ rfl _ _ 70 rfl w.heap.size 5 i0 (.int .u8 0) 1 1 Try.underlying70 hi hz0 hz1 hz2 rfl (by decide) _ (BN m).length (bC (BN m)) rfl (HO.out.alloc _) ⟨wo.heap.size, 0, none⟩ 2 2 [.int .u8 ((CK : Int) / 256), .int .u8 ((CK : Int) % 256)] rfl rfl cells_new (fun u hu => by simp at hu; rcases hu with rfl | rfl <;> rfl) hb63 hb47 (HB22.out _) ?_; intro v' w6 hown6 hgrow6 hnil6; obtain ⟨a6, c6, rfl⟩ := own_len hown6)
      go_ret
      have eF : FN = BN m ++ [CK / 256, CK % 256] := HFN.out
      refine ⟨a6, c6, ?_, ?_, (hbl.alloc hbl.size _).grown hgrow6 (HB22.out _) (fun g hg => (HO.out.lt g hg).1)⟩
      · rw [eF, List.length_append]; rfl
      · rw [eF, List.length_append, bC_append]; exact hown6
end Go.Proofs.Ytgcepjminlapiaa
