/- The walk of plane.Pack. -/
import Derived.Test.YtgcepjminlapiaaPackA
namespace Go.Proofs.Ytgcepjminlapiaa
open Go.RowKit
set_option linter.unusedVariables false
set_option linter.unusedSimpArgs false
theorem bC_len (l : List Nat) : (bC l).length = l.length := by simp [bC]
theorem head_len (m : Nat) : (([79, 86, 69, 49] : List Nat) ++ grp m).length = 4 + (grp m).length := by rw [List.length_append]; rfl
theorem bC_append (l r : List Nat) : bC (l ++ r) = bC l ++ bC r := by simp [bC]
theorem own_bytes {w : World} {base : Nat} {e : TypeId} {a : Option Addr} {m c n : Nat} {l : List Nat} (h : w.ownsRow base e 1 (.slice a m c) n (bC l)) : m = n ∧ n = l.length ∧ Bytes w.heap.size w a n (fun i => l.getD i 0) := by
  have hl : l.length = n := by have := h.1; rw [bC_len] at this; omega
  rcases h.2 with ⟨hv, hn⟩ | ⟨g, cap, cur, hv, hb, hg, hnc, hcm, hcs, htake⟩
  · injection hv with h1 h2 h3
    exact ⟨by omega, by omega, .inl hn⟩
  · injection hv with h1 h2 h3
    refine ⟨h2, by omega, .inr ⟨g, 0, h1, (Array.getElem?_eq_some_iff.1 hg).1, fun i hi => ?_⟩⟩
    rw [Nat.zero_add, cell_of_row w g _ cur e (0, 0) hg]
    have h5 : (List.take (n * 1) cur.toList)[i]? = cur[i]? := by rw [List.getElem?_take_of_lt (by omega)]; simp
    show _ = some (Value.int .u8 ((l.getD i 0 : Nat) : Int))
    rw [← h5, htake, bC, List.getElem?_map, List.getElem?_eq_getElem (by omega), List.getD_eq_getElem?_getD, List.getElem?_eq_getElem (by omega)]
    rfl
theorem Pack_bad (a : Option Addr) (m d : Nat) (hs : Nat → HV) (w : World) (B : Nat) (hBw : B ≤ w.heap.size) (hH : Hits B w a m hs) (E : Int) (hE : (2000 < m ∧ E = 3) ∨ (m ≤ 2000 ∧ packB m hs = false ∧ E = 2)) :
    Calls Try.prog 37 #[.slice a m d] w fun e w' => e = .returned (.tuple #[.slice none 0 0, .int .i64 E]) ∧ Below w.heap.size w w' := by
  have hm := hH.1
  unfold maxLen at hm
  have HH := Lib.hid hH
  clear hH
  rcases hE with ⟨h1, rfl⟩ | ⟨h1, h2, rfl⟩
  · have h1' : (2000 : Int) < (m : Int) := by omega
    go_enter Try.func37, Try.ntmps37
    go_wp2
    go_ret2
    exact ⟨rfl, Below.refl _ _⟩
  · have h1' : ¬ (2000 : Int) < (m : Int) := by omega
    go_enter Try.func37, Try.ntmps37
    go_wp2_with (go_at_call 66; refine (packable_any a m d hs _ B hBw HH.out).mono ?_; rintro e wy ⟨rfl, hby⟩; rw [h2])
    go_ret2
    exact ⟨rfl, hby⟩
def PackRes (w : World) (l : List Nat) (e : Ending) (w' : World) : Prop := ∃ a c, e = .returned (.tuple #[.slice a l.length c, .int .i64 0]) ∧ w'.ownsRow w.heap.size 5 1 (.slice a l.length c) l.length (bC l) ∧ Below w.heap.size w w'
theorem head_own {w : World} {t : TypeId} : (w.alloc (.cells #[.int .u8 79, .int .u8 86, .int .u8 69, .int .u8 49] t)).ownsRow w.heap.size t 1 (.slice (some ⟨w.heap.size, 0, none⟩) 4 4) 4 (bC [79, 86, 69, 49]) :=
  ⟨rfl, .inr ⟨w.heap.size, 4, _, rfl, Nat.le_refl _, heap_alloc_new w _, Nat.le_refl _, by decide, rfl, rfl⟩⟩
set_option maxRecDepth 100000 in
set_option maxHeartbeats 2000000 in
theorem Pack_ok (a : Option Addr) (m d : Nat) (hs : Nat → HV) (w : World) (B : Nat) (hBw : B ≤ w.heap.size) (hH : Hits B w a m hs) (hm : m ≤ 66) (hp : packB m hs = true) :
    Calls Try.prog 37 #[.slice a m d] w (PackRes w (fileN m hs)) := by
  have hpa : ∀ i, i < m → packableB (hs i) = true := allUpto_iff.1 hp
  have HH := Lib.hid hH
  have HPA := Lib.hid hpa
  have HBL := Lib.hid (fun k (hk : k ≤ m) => bodyN_len hpa (show m ≤ 2000 by omega) hk)
  have HLT := Lib.hid (fun k hk => lastT_le hpa k hk)
  have HB0 := Lib.hid (show bodyN m hs 0 = [79, 86, 69, 49] ++ grp m by simp [bodyN, packN])
  have HBS := Lib.hid (fun k => show bodyN m hs (k + 1) = bodyN m hs k ++ packJ (lastT hs k) (hs k) 6 by rw [packJ_six]; simp [bodyN, packN])
  have HFN := Lib.hid (show fileN m hs = bodyN m hs m ++ [chkL (bodyN m hs m) / 256, chkL (bodyN m hs m) % 256] from rfl)
  have HL0 := Lib.hid (show lastT hs 0 = 0 from rfl)
  have HLS := Lib.hid (fun k => show lastT hs (k + 1) = (hs k).time from rfl)
  have HBY := Lib.hid (fun k => @bodyN_byte m hs k)
  obtain ⟨i0, hi, hz0, hz1, hz2⟩ := info_parts info_u8
  have h1' : ¬ (2000 : Int) < (m : Int) := by omega
  generalize fileN m hs = FN at *
  generalize bodyN m hs = BN at *
  generalize lastT hs = LT at *
  clear hH hpa
  go_enter Try.func37, Try.ntmps37
  go_upto_region 5 with (go_at_call 66; refine (packable_any a m d hs _ B hBw HH.out).mono ?_; rintro e wy ⟨rfl, hby⟩; rw [hp])
  have hyz := hby.size
  go_upto_region 6 with (go_at_call 67; refine (put_any _ 4 (bC [79, 86, 69, 49]) m (by omega) (by omega) _ wy.heap.size (by simp) head_own).mono ?_; rintro e wz ⟨az, cz, rfl, hown, hkt, hbz⟩)
  have HO0 : Hid (wz.ownsRow w.heap.size 5 1 (.slice az (4 + (grp m).length) cz) (BN 0).length (bC (BN 0)) ∧ 4 + (grp m).length = (BN 0).length ∧ Below w.heap.size w wz) := Lib.hid ⟨by rw [HB0.out, bC_append, head_len]; exact own_base hown hyz, by rw [HB0.out, head_len], (hby.alloc hyz _).trans (hbz.mono hyz)⟩
  clear hown hkt hbz hby
  obtain ⟨e0, _⟩ : 4 + (grp m).length = (BN 0).length ∧ True := ⟨HO0.out.2.1, trivial⟩
  rw [e0] at HO0 ⊢
  clear e0
  go_wp2
  go_loopw [4, 5, 25] (fun s4 s5 t wr => ∃ k : Nat, k ≤ m ∧ t = .int .i64 (k : Int) ∧ s5 = .int .i64 (LT k) ∧ (∃ av cv, s4 = .slice av (BN k).length cv ∧ wr.ownsRow w.heap.size 5 1 (.slice av (BN k).length cv) (BN k).length (bC (BN k))) ∧ Below w.heap.size w wr) (fun _ _ t _ => m - (intOf t).toNat)
  case atStart => exact ⟨0, Nat.zero_le _, rfl, by rw [HL0.out], ⟨az, cz, rfl, HO0.out.1⟩, HO0.out.2.2⟩
  case round =>
    clear HO0
    obtain ⟨wo, rfl⟩ : ∃ wo : World, wo = wr := ⟨_, rfl⟩
    obtain ⟨k, hk, rfl, rfl, ⟨av, cv, rfl, hown⟩, hbl⟩ := hrel
    obtain ⟨lt1, lt2⟩ := HLT.out k hk
    have hlen := HBL.out k hk
    by_cases hlt : k < m
    · obtain ⟨b, off, rfl, hbB, y0, y1, y2, y3, y4, y5⟩ := (HH.out.below (hbl.mono hBw)).get hlt
      have hbz : b < wo.heap.size := by have := hbl.size; omega
      have hpk := HPA.out k hlt
      have hBS := HBS.out k
      have hLS := HLS.out k
      generalize hs k = h at *
      generalize LT k = last at *
      have HBk := Lib.hid hBS
      have HLk := Lib.hid hLS
      have HPK := Lib.hid hpk
      clear hBS hLS hpk
      obtain ⟨a1, a2, a3, a4, a5, a6⟩ := packable_iff.1 HPK.out
      have HO := Lib.hid hown
      clear hown
      go_upto_if 38 with (fail)
      go_cut [9] from 39 to 41 (fun s9 wx => s9 = .int .i64 (zig (h.time - last)) ∧ wx = wo.alloc (.cells #[.int .i64 h.plane, .int .i64 h.channel, .int .i64 h.many, .int .i64 h.drift, .int .i64 h.charge, .int .i64 h.time] 26))
      case first =>
        by_cases hd : h.time - last < 0
        · have HZ := Lib.hid (show zig (h.time - last) = -2 * (h.time - last) - 1 by unfold zig; rw [if_pos hd])
          go_wp2
          go_meet
          exact ⟨by rw [HZ.out], by first | rfl | trivial⟩
        · have HZ := Lib.hid (show zig (h.time - last) = 2 * (h.time - last) by unfold zig; rw [if_neg hd])
          go_wp2
          go_meet
          exact ⟨by rw [HZ.out], by first | rfl | trivial⟩
      obtain ⟨rfl, rfl⟩ := hcut
      go_wp2
      obtain ⟨X, hX⟩ : ∃ X : Array Value, X = #[.int .i64 h.plane, .int .i64 h.channel, .int .i64 h.many, .int .i64 h.drift, .int .i64 h.charge, .int .i64 (zig (h.time - last))] := ⟨_, rfl⟩
      have HXn := Lib.hid (show ∀ j, j < 6 → X[j]? = some (.int .i64 (hn last h j : Int)) by
        intro j hj
        have hzz := zig_nonneg (h.time - last)
        subst hX
        match j, hj with
        | 0, _ | 1, _ | 2, _ | 3, _ | 4, _ | 5, _ => simp [hn] <;> omega)
      go_loopw [4, 55] (fun s4 t wx => ∃ j : Nat, j ≤ 6 ∧ t = .int .i64 (j : Int) ∧ (∃ av cv L, Hid (L = BN k ++ packJ last h j) ∧ s4 = .slice av L.length cv ∧ wx.ownsRow w.heap.size 5 1 (.slice av L.length cv) L.length (bC L)) ∧ wx.heap[wo.heap.size + 1]? = some (.cells X 3) ∧ Below w.heap.size w wx) (fun _ t _ => 6 - (intOf t).toNat)
      case atStart =>
        refine ⟨0, by omega, rfl, ⟨av, cv, BN k, Lib.hid (by simp [packJ]), rfl, (HO.out.alloc _).alloc _⟩, ?_, (hbl.alloc hbl.size _).alloc (by have := hbl.size; simp; omega) _⟩
        rw [heapQ_new (by simp), hX]
      case round =>
        obtain ⟨j, hj, rfl, ⟨au, cu, L, HL, rfl, hown⟩, hheap, hbl2⟩ := hrel
        have hxz : wo.heap.size + 1 < wr.heap.size := (Array.getElem?_eq_some_iff.1 hheap).1
        have hpl := packJ_len HPK.out lt1 lt2 j
        have hLn : L.length ≤ 2000 := by rw [HL.out, List.length_append]; omega
        by_cases hjt : j < 6
        · have c0 : wr.cell? ⟨wo.heap.size + 1, j, none⟩ = some (.int .i64 (hn last h j : Int)) := (cell_of_row _ _ _ _ _ _ hheap).trans (HXn.out j hjt)
          have hnf := hn_fits HPK.out lt1 lt2 j
          have HPS := Lib.hid (show packJ last h (j + 1) = packJ last h j ++ grp (hn last h j) from rfl)
          have HHP := Lib.hid hheap
          have HOW := Lib.hid hown
          clear hheap hown hpl
          generalize hn last h j = nj at *
          go_wp2_with (go_at_call 67; (with_reducible refine (put_any _ L.length (bC L) nj hnf hLn _ w.heap.size hbl2.size HOW.out).mono ?_); rintro e wz ⟨az', cz', rfl, hown', hkt', hbz'⟩)
          go_roundw
          case rel =>
            refine ⟨j + 1, by omega, by go_num, ⟨az', cz', L ++ grp nj, Lib.hid (by rw [HPS.out, HL.out, List.append_assoc]), ?_, ?_⟩, ?_, hbl2.trans hbz'⟩
            · rw [List.length_append]
            · rw [List.length_append, bC_append]; exact hown'
            · rw [hkt'.2 _ hxz (fun cur f => by rw [HHP.out]; intro e; injection e with e; injection e with _ e; exact absurd e (by decide))]
              exact HHP.out
          case measure => simp [intOf]; omega
        · obtain rfl : 6 = j := by omega
          have HOW := Lib.hid hown
          have eB : L = BN (k + 1) := HL.out.trans HBk.out.symm
          subst eB
          clear hheap hown hLn
          go_wp2
          go_roundw
          case rel => exact ⟨k + 1, by omega, by go_num, by rw [HLk.out], ⟨au, cu, rfl, HOW.out⟩, hbl2⟩
          case measure => simp [intOf]; omega
    · obtain rfl : m = k := by omega
      obtain ⟨_, _, hBy⟩ := own_bytes hown
      have HBy := Lib.hid hBy
      have HO := Lib.hid hown
      have HCL := Lib.hid (show chkN (fun i => (BN m).getD i 0) (BN m).length = chkL (BN m) from rfl)
      have HBT := Lib.hid (fun i (hi : i < (BN m).length) => getD_byte (HBY.out m) i)
      have hlen2 : (BN m).length ≤ 2000 := by omega
      clear hBy hown
      go_upto_region 22 with (go_at_call 68; refine (check16_any av (BN m).length cv (fun i => (BN m).getD i 0) _ wo.heap.size (Nat.le_refl _) HBy.out HBT.out hlen2).mono ?_; rintro e wz ⟨rfl, hbz⟩; rw [HCL.out])
      generalize chkL (BN m) = CK at *
      have hown := own_below HO.out hbz
      have hbz2 : Below w.heap.size w wz := hbl.trans (hbz.mono hbl.size)
      clear hbz
      have hb63 : (BN m).length + 2 ≤ maxLen := by unfold maxLen; omega
      have hb47 : ((BN m).length + 2) * 1 ≤ 140737488355328 := by omega
      have hb22 : w.heap.size ≤ (wz.alloc (.cells #[.int .u8 ((CK : Int) / 256), .int .u8 ((CK : Int) % 256)] 114)).heap.size := by have := hbz2.size; simp; omega
      have HOZ := Lib.hid hown
      clear hown
      go_wp2_with (at_builtin; refine wpList_append_own _ rfl _ _ 70 rfl w.heap.size 5 i0 (.int .u8 0) 1 1 Try.underlying70 hi hz0 hz1 hz2 rfl (by decide) _ (BN m).length (bC (BN m)) rfl (HOZ.out.alloc _) ⟨wz.heap.size, 0, none⟩ 2 2 [.int .u8 ((CK : Int) / 256), .int .u8 ((CK : Int) % 256)] rfl rfl cells_new (fun u hu => by simp at hu; rcases hu with rfl | rfl <;> rfl) hb63 hb47 hb22 ?_; intro v' w6 hown6 hgrow6 hnil6; obtain ⟨a6, c6, rfl⟩ := own_len hown6)
      go_ret2
      have eF : FN = BN m ++ [CK / 256, CK % 256] := HFN.out
      refine ⟨a6, c6, ?_, ?_, (hbz2.alloc hbz2.size _).grown hgrow6 (by have := hbz2.size; simp; omega) (fun g hg => (HOZ.out.lt g hg).1)⟩
      · rw [eF, List.length_append]; rfl
      · rw [eF, List.length_append, bC_append]; exact hown6
end Go.Proofs.Ytgcepjminlapiaa
