/- The walk of image.look: a search is laid in memory. -/
import Derived.Test.YtkdopjkdokgipaaGreatDoorGcA
namespace Go.Proofs.YtkdopjkdokgipaaGreatDoor
open Go.RowKit
set_option linter.unusedVariables false
set_option linter.unusedSimpArgs false
theorem one_slice {a : Option Addr} {n c : Nat} : ∀ u ∈ [Value.slice a n c], u.oneCell' = true := by intro u hu; simp at hu; subst hu; rfl
set_option maxRecDepth 100000 in
set_option maxHeartbeats 4000000 in
theorem look_any (a : Option Addr) (n c : Nat) (ba : Option Addr) (m bc : Nat) (ss : Nat → SV) (bs : Nat → BM) (w : World) (B : Nat) (hBw : B ≤ w.heap.size) (hS : Spans B w a n ss) (hM : Beams B w ba m bs) (hSh : Shape n ss m bs) :
    Calls Tryz.prog 52 #[imageV a n c ba m bc] w (LookRes a n c ba m bc ss bs w) := by
  have HS := Lib.hid hS
  have HM := Lib.hid hM
  have HSh := Lib.hid hSh
  have hn := hSh.n40
  have hm := hSh.m20
  have mk1 := make_ints n (by omega)
  have mk2 : ∀ W, (Instr.makeSlice 46 (.int .i64 ((n : Int) + 1)) (.int .i64 ((n : Int) + 1))).run Tryz.prog W = .ok (.slice (some ⟨W.heap.size, 0, none⟩) (n + 1) (n + 1)) (W.alloc (.cells (madeCells #[.int .i64 0, .int .i64 0] ((n + 1) * 2)) 28)) := fun W => by
    have := make_spans (n + 1) (by omega) W
    rwa [show ((n + 1 : Nat) : Int) = (n : Int) + 1 by omega] at this
  have HRES := Lib.hid (fun (e : Ending) (w' : World) (he : e = .returned (.pointer (some ⟨w.heap.size + 1, 0, none⟩))) (wa : Option Addr) (wc : Nat) (ra : Option Addr) (rc : Nat) (ws rs : List Nat) (h : LK a n c ba m bc ss bs w wa wc ra rc m ws rs w') => show LookRes a n c ba m bc ss bs w e w' from ⟨he, wa, wc, ra, rc, ws, rs, h⟩)
  generalize LookRes a n c ba m bc ss bs w = RES at *
  clear hS hM hSh
  go_enter Tryz.func52, Tryz.ntmps52
  go_upto_region 3 with (fail)
  have HL0 := Lib.hid (show LK a n c ba m bc ss bs w none 0 none 0 0 [] [] ((w.alloc (.cells #[.slice a n c, .slice ba m bc] 50)).alloc (.cells #[.slice a n c, .slice ba m bc, .slice none 0 0, .slice none 0 0] 165)) from
    ⟨LI_step LI_start ((Below.refl _ _).alloc (Nat.le_refl _) _), by have := heap_alloc_new (w.alloc (.cells #[.slice a n c, .slice ba m bc] 50)) (.cells #[.slice a n c, .slice ba m bc, .slice none 0 0, .slice none 0 0] 165); rwa [World.size_alloc] at this, rfl, rfl, World.ownsRow_nil _ _ _ _, World.ownsRow_nil _ _ _ _, fun j h => by omega, fun j h => by omega, fun j h => by omega, fun j h => by omega⟩)
  generalize World.alloc _ _ = V0 at *
  obtain ⟨l0, l1, l2, l3⟩ := HL0.out.li
  go_wp2
  go_loopw [21] (fun t wr => ∃ (i : Nat) (wa : Option Addr) (wc : Nat) (ra : Option Addr) (rc : Nat) (ws rs : List Nat), i ≤ m ∧ t = .int .i64 (i : Int) ∧ Hid (LK a n c ba m bc ss bs w wa wc ra rc i ws rs wr)) (fun t _ => m - (intOf t).toNat)
  case atStart => exact ⟨0, none, 0, none, 0, [], [], Nat.zero_le _, rfl, HL0⟩
  case round =>
    clear HL0 l0 l1 l2 l3
    obtain ⟨i, wa, wcp, ra, rcp, ws, rs, hi, rfl, HL⟩ := hrel
    obtain ⟨l0, l1, l2, l3⟩ := HL.out.li
    by_cases hlt : i < m
    · have hlt' : (i : Int) < (m : Int) := by omega
      obtain ⟨b, off, rfl, hbB, hat, hmem⟩ := HM.out.get hlt
      obtain ⟨c0, c1, c2, c3⟩ := hat.below (l3.mono hBw) hbB
      have hbz : b < wr.heap.size := by omega
      have HW := Lib.hid (HSh.out.wn i hlt)
      have HSet := Lib.hid (HSh.out.set i hlt)
      have HWB := Lib.hid (fun c => HSh.out.w hlt c)
      have hcn := setB_len (HSh.out.set i hlt)
      generalize hbb : bs i = q at *
      have HBB := Lib.hid hbb
      clear hbb
      obtain ⟨qca, qcn, qcc, qwa, qwn, qwc, qlo, qhi, qcs, qws⟩ := q
      obtain ⟨qm1, qm2, qm3, qm4⟩ := hmem
      dsimp only at c0 c1 c2 c3 qm1 qm2 qm3 qm4 hcn
      have HQ3 := Lib.hid qm3
      have HQ4 := Lib.hid qm4
      clear qm3 qm4 qm1 qm2 hat
      go_upto_region 6 with (fail)
      have hxb : Below wr.heap.size wr (wr.alloc (.cells #[.slice qca qcn qcc, .slice qwa qwn qwc, .int .i64 qlo, .int .i64 qhi] 31)) := (Below.refl _ _).alloc (Nat.le_refl _) _
      have hX0 : BX wr.heap.size qca qcn qcc qwa qwn qwc qlo qhi (wr.alloc (.cells #[.slice qca qcn qcc, .slice qwa qwn qwc, .int .i64 qlo, .int .i64 qhi] 31)) := BX_new
      have HL2 := Lib.hid (HL.out.step hxb)
      clear l0 l1 l2 l3 c0 c1 c2 c3 hbz hxb HL
      generalize World.alloc wr _ = V at *
      generalize wr.heap.size = x at *
      have hX1 := Lib.hid hX0
      have hxz := hX0.1
      have hws := Lib.hid (fun j (hj : j < i) => (HL2.out.wrow j hj).lt)
      have hrs := Lib.hid (fun j (hj : j < i) => (HL2.out.rrow j hj).lt)
      have hwV : w.heap.size + 2 ≤ V.heap.size := by have := (Array.getElem?_eq_some_iff.1 HL2.out.sbox).1; omega
      clear hX0
      go_cut [7, 8, 21] from 21 to 113 (fun s7 s8 s21 wx => ∃ wb rb, s7 = .slice (some ⟨wb, 0, none⟩) n n ∧ s8 = .slice (some ⟨rb, 0, none⟩) (n + 1) (n + 1) ∧ s21 = .int .i64 (i : Int) ∧ Hid (LP a n c (some ⟨b, off, none⟩) m bc ss bs w wa wcp ra rcp i ws rs x qca qcn qcc qwa qwn qwc qlo qhi wb rb (fun _ => 0) (fun _ => ⟨0, 0⟩) wx))
      case first =>
        go_region
        · go_wp2_with fail
          go_meet
          have hB : Below V.heap.size V (((V.alloc (.cells (madeCells #[.int .i64 0] n) 3)).alloc (.cells (madeCells #[.int .i64 0, .int .i64 0] ((n + 1) * 2)) 28)).drew) := (((Below.refl _ _).alloc (Nat.le_refl _) _).alloc (by simp) _).drew
          exact ⟨_, _, rfl, rfl, rfl, Lib.hid ⟨HL2.out.step hB, BX_step hX1.out hB, (IR.made V 3 n).alloc _, by have := SR.made (V.alloc (.cells (madeCells #[.int .i64 0] n) 3)) 28 (n + 1); rw [World.size_alloc] at this; exact this,
            fun j hj => by have := hws.out j hj; omega, fun j hj => by have := hrs.out j hj; omega, by omega, by omega, by omega, by omega⟩⟩
        · go_wp2_with fail
          go_meet
          have hB : Below V.heap.size V (((V.alloc (.cells (madeCells #[.int .i64 0, .int .i64 0] ((n + 1) * 2)) 28)).alloc (.cells (madeCells #[.int .i64 0] n) 3)).drew) := (((Below.refl _ _).alloc (Nat.le_refl _) _).alloc (by simp) _).drew
          exact ⟨_, _, rfl, rfl, rfl, Lib.hid ⟨HL2.out.step hB, BX_step hX1.out hB, by have := IR.made (V.alloc (.cells (madeCells #[.int .i64 0, .int .i64 0] ((n + 1) * 2)) 28)) 3 n; rw [World.size_alloc] at this; exact this, (SR.made V 28 (n + 1)).alloc _,
            fun j hj => by have := hws.out j hj; omega, fun j hj => by have := hrs.out j hj; omega, by omega, by omega, by omega, by omega⟩⟩
      case rest =>
      clear HL2 hX1 hxz hws hrs hwV
      obtain ⟨wb, rb, rfl, rfl, rfl, HLP⟩ := hcut
      obtain rfl : qwn = qcn := HW.out
      obtain ⟨x0, x1, x2, x3, x4⟩ := HLP.out.bx
      go_wp2
      go_loopw [33] (fun t wr => ∃ j : Nat, j ≤ qwn ∧ t = .int .i64 (j : Int) ∧ Hid (LP a n c (some ⟨b, off, none⟩) m bc ss bs w wa wcp ra rcp i ws rs x qca qwn qcc qwa qwn qwc qlo qhi wb rb (wUp qcs qws j) (fun _ => ⟨0, 0⟩) wr)) (fun t _ => qwn - (intOf t).toNat)
      case atStart => exact ⟨0, Nat.zero_le _, rfl, HLP⟩
      case round =>
        clear HLP x0 x1 x2 x3 x4
        obtain ⟨j, hj, rfl, HLP⟩ := hrel
        obtain ⟨x0, x1, x2, x3, x4⟩ := HLP.out.bx
        obtain ⟨l0, l1, l2, l3⟩ := HLP.out.lk.li
        by_cases hlt2 : j < qwn
        · have hlt2' : (j : Int) < (qwn : Int) := by omega
          obtain ⟨cb, coff, rfl, hcB, d0⟩ := (HQ3.out.below (l3.mono hBw)).get hlt2
          obtain ⟨vb, voff, rfl, hvB, d1⟩ := (HQ4.out.below (l3.mono hBw)).get hlt2
          obtain ⟨cj, hcj, hce⟩ : ∃ cj : Nat, cj < n ∧ qcs j = (cj : Int) := by
            have := setB_at HSet.out hlt2
            exact ⟨(qcs j).toNat, by omega, by omega⟩
          have HE := Lib.hid (fun k (hk : k < n) => (show (if k = cj then qws j else wUp qcs qws j k) = wUp qcs qws (j + 1) k from by
            have := wUp_step (c := k) (ws := qws) HSet.out hlt2
            rw [← this, hce]
            simp))
          rw [hce] at d0
          have hcj' : (cj : Int) < (n : Int) := by omega
          have e0 := HLP.out.ir.cell hcj
          have e1 := HLP.out.ir.frozen cj
          have hcz : cb < wr.heap.size := by omega
          have hvz : vb < wr.heap.size := by omega
          clear hce
          go_wp2
          go_roundw
          case rel => exact ⟨j + 1, by omega, by go_num, Lib.hid (HLP.out.setw hcj _ HE.out)⟩
          case measure => simp [intOf]; omega
        · obtain rfl : j = qwn := by omega
          have hlt2' : ¬ (j : Int) < (j : Int) := by omega
          go_wp2
          go_loopw [11] (fun t wr => ∃ (j2 : Nat) (y : Int), j2 ≤ n ∧ t = .int .i64 y ∧ Hid (y = (j2 : Int) - 1) ∧ Hid (LP a n c (some ⟨b, off, none⟩) m bc ss bs w wa wcp ra rcp i ws rs x qca j qcc qwa j qwc qlo qhi wb rb (wUp qcs qws j) (restT n ss (bs i) (n - j2)) wr)) (fun t _ => (intOf t + 1).toNat)
          case atStart => exact ⟨n, _, Nat.le_refl _, rfl, Lib.hid (by omega), Lib.hid (HLP.out.gcongr (fun k hk => by rw [Nat.sub_self]; exact restT_zero hk))⟩
          case round =>
            clear HLP x0 x1 x2 x3 x4 l0 l1 l2 l3
            obtain ⟨j2, y, hj2, rfl, HY, HLP⟩ := hrel
            obtain ⟨l0, l1, l2, l3⟩ := HLP.out.lk.li
            by_cases h0 : j2 = 0
            · subst h0
              obtain rfl : y = -1 := by have := HY.out; omega
              clear HY
              go_upto_region 16 with (fail)
              have hwf : ∀ k, k < n → wUp qcs qws j k = (bs i).w k := fun k _ => by rw [HBB.out]; rfl
              have hgf : ∀ k, k < n + 1 → restT n ss (bs i) (n - 0) k = restS n ss (bs i) k := fun k hk => by unfold restT; rw [if_pos (by omega)]
              have HLQ := Lib.hid (show LP a n c (some ⟨b, off, none⟩) m bc ss bs w wa wcp ra rcp i ws rs x qca j qcc qwa j qwc qlo qhi wb rb (bs i).w (restS n ss (bs i)) wr from ⟨HLP.out.lk, HLP.out.bx, HLP.out.ir.congr hwf, HLP.out.sr.congr hgf, HLP.out.wlt, HLP.out.rlt, HLP.out.ne, HLP.out.x0, HLP.out.w0, HLP.out.r0⟩)
              have c2 : wr.cell? ⟨w.heap.size + 1, 2, none⟩ = some (.slice wa i wcp) := cell_of_row _ _ _ _ _ _ HLP.out.lk.sbox
              have c3 : wr.cell? ⟨w.heap.size + 1, 3, none⟩ = some (.slice ra i rcp) := cell_of_row _ _ _ _ _ _ HLP.out.lk.sbox
              have f2 : wr.frozen? ⟨w.heap.size + 1, 2, none⟩ = false := frozen_of_row _ _ _ _ _ HLP.out.lk.sbox
              have f3 : wr.frozen? ⟨w.heap.size + 1, 3, none⟩ = false := frozen_of_row _ _ _ _ _ HLP.out.lk.sbox
              have hspz : w.heap.size + 1 < wr.heap.size := (Array.getElem?_eq_some_iff.1 HLP.out.lk.sbox).1
              have HAP := Lib.hid (show AP (w.heap.size + 2) wr wr.drew (.slice wa i wcp) (.slice ra i rcp) i i (ws.map (rowW n)) (rs.map (rowW (n + 1))) from ⟨(Below.refl _ _).drew, fun _ _ _ _ _ _ _ => rfl, by omega, HLP.out.lk.wown, HLP.out.lk.rown⟩)
              obtain ⟨i1, hi1, hz10, hz11, hz12⟩ := info_parts info_ints
              obtain ⟨i2, hi2, hz20, hz21, hz22⟩ := info_parts info_spans
              have hb63 : i + 1 ≤ maxLen := by unfold maxLen; omega
              have hb47 : (i + 1) * 24 ≤ 140737488355328 := by omega
              clear HLP hwf hgf l0 l1 l2 l3
              refine wp_region_any (by kernel_rfl) ?_
              change wpAny _ _ _ _ _ _ _ (World.drew wr)
              have d2 : wr.drew.cell? ⟨w.heap.size + 1, 2, none⟩ = some (.slice wa i wcp) := c2
              have d3 : wr.drew.cell? ⟨w.heap.size + 1, 3, none⟩ = some (.slice ra i rcp) := c3
              have hwz : wr.heap.size ≤ wr.drew.heap.size := Nat.le_refl _
              generalize World.drew wr = wd at *
              refine wpAny_take (i := 1) (v := ?_) rfl (by kernel_rfl) (by kernel_rfl) (by kernel_rfl) (fun _ _ _ h => h) (Or.inl ⟨by rfl, ?_⟩) ?_
              rotate_left
              · intro w'; go_simp
                try with_reducible rfl
              (try dsimp only [Act.put]); (try simp only [List.setIfInBounds_toArray, List.set_cons_zero, List.set_cons_succ])
              refine any_of_tail 16 15 (fun w' => w'.cell? ⟨w.heap.size + 1, 2, none⟩ = some (.slice wa i wcp) ∧ w'.cell? ⟨w.heap.size + 1, 3, none⟩ = some (.slice ra i rcp)) (by kernel_rfl) ⟨d2, d3⟩ (fun hS => ?_)
              refine headH_take (i := 0) (v := ?_) rfl (by kernel_rfl) (fun _ _ _ h => h) (Or.inl ⟨by rfl, ?_⟩) (by assumption) ?_; rotate_left; (· intro w' hSw; (try dsimp only at hSw); (try obtain ⟨hSw1, hSw2⟩ := hSw); go_simp; (try with_reducible rfl)); (try dsimp only [Act.put]); (try simp only [List.setIfInBounds_toArray, List.set_cons_zero, List.set_cons_succ])
              refine headH_take (i := 2) (v := ?_) rfl (by kernel_rfl) (fun _ _ _ h => h) (Or.inl ⟨by rfl, ?_⟩) (by assumption) ?_; rotate_left; (· intro w' hSw; (try dsimp only at hSw); (try obtain ⟨hSw1, hSw2⟩ := hSw); go_simp; (try with_reducible rfl)); (try dsimp only [Act.put]); (try simp only [List.setIfInBounds_toArray, List.set_cons_zero, List.set_cons_succ])
              refine headH_take (i := 3) (v := ?_) rfl (by kernel_rfl) (fun _ _ _ h => h) (Or.inl ⟨by rfl, ?_⟩) (by assumption) ?_; rotate_left; (· intro w' hSw; (try dsimp only at hSw); (try obtain ⟨hSw1, hSw2⟩ := hSw); go_simp; (try with_reducible rfl)); (try dsimp only [Act.put]); (try simp only [List.setIfInBounds_toArray, List.set_cons_zero, List.set_cons_succ])
              refine headH_take (i := 4) (v := ?_) rfl (by kernel_rfl) (fun _ _ _ h => h) (Or.inl ⟨by rfl, ?_⟩) (by assumption) ?_; rotate_left; (· intro w' hSw; (try dsimp only at hSw); (try obtain ⟨hSw1, hSw2⟩ := hSw); go_simp; (try with_reducible rfl)); (try dsimp only [Act.put]); (try simp only [List.setIfInBounds_toArray, List.set_cons_zero, List.set_cons_succ])
              refine headH_take (i := 5) (v := ?_) rfl (by kernel_rfl) (fun _ _ _ h => h) (Or.inl ⟨by rfl, ?_⟩) (by assumption) ?_; rotate_left; (· intro w' hSw; (try dsimp only at hSw); (try obtain ⟨hSw1, hSw2⟩ := hSw); go_simp; (try with_reducible rfl)); (try dsimp only [Act.put]); (try simp only [List.setIfInBounds_toArray, List.set_cons_zero, List.set_cons_succ])
              refine headH_take (i := 6) (v := ?_) rfl (by kernel_rfl) (fun _ _ _ h => h) (Or.inl ⟨by rfl, ?_⟩) (by assumption) ?_; rotate_left; (· intro w' hSw; (try dsimp only at hSw); (try obtain ⟨hSw1, hSw2⟩ := hSw); go_simp; (try with_reducible rfl)); (try dsimp only [Act.put]); (try simp only [List.setIfInBounds_toArray, List.set_cons_zero, List.set_cons_succ])
              refine headH_take (i := 9) (v := ?_) rfl (by kernel_rfl) (fun _ _ _ h => h) (Or.inl ⟨by rfl, ?_⟩) (by assumption) ?_; rotate_left; (· intro w' hSw; (try dsimp only at hSw); (try obtain ⟨hSw1, hSw2⟩ := hSw); go_simp; (try with_reducible rfl)); (try dsimp only [Act.put]); (try simp only [List.setIfInBounds_toArray, List.set_cons_zero, List.set_cons_succ])
              refine headH_take (i := 10) (v := ?_) rfl (by kernel_rfl) (fun _ _ _ h => h) (Or.inl ⟨by rfl, ?_⟩) (by assumption) ?_; rotate_left; (· intro w' hSw; (try dsimp only at hSw); (try obtain ⟨hSw1, hSw2⟩ := hSw); go_simp; (try with_reducible rfl)); (try dsimp only [Act.put]); (try simp only [List.setIfInBounds_toArray, List.set_cons_zero, List.set_cons_succ])
              refine headH_take (i := 11) (v := ?_) rfl (by kernel_rfl) (fun _ _ _ h => h) (Or.inl ⟨by rfl, ?_⟩) (by assumption) ?_; rotate_left; (· intro w' hSw; (try dsimp only at hSw); (try obtain ⟨hSw1, hSw2⟩ := hSw); go_simp; (try with_reducible rfl)); (try dsimp only [Act.put]); (try simp only [List.setIfInBounds_toArray, List.set_cons_zero, List.set_cons_succ])
              refine headH_take (i := 12) (v := ?_) rfl (by kernel_rfl) (fun _ _ _ h => h) (Or.inl ⟨by rfl, ?_⟩) (by assumption) ?_; rotate_left; (· intro w' hSw; (try dsimp only at hSw); (try obtain ⟨hSw1, hSw2⟩ := hSw); go_simp; (try with_reducible rfl)); (try dsimp only [Act.put]); (try simp only [List.setIfInBounds_toArray, List.set_cons_zero, List.set_cons_succ])
              refine headH_take (i := 13) (v := ?_) rfl (by kernel_rfl) (fun _ _ _ h => h) (Or.inl ⟨by rfl, ?_⟩) (by assumption) ?_; rotate_left; (· intro w' hSw; (try dsimp only at hSw); (try obtain ⟨hSw1, hSw2⟩ := hSw); go_simp; (try with_reducible rfl)); (try dsimp only [Act.put]); (try simp only [List.setIfInBounds_toArray, List.set_cons_zero, List.set_cons_succ])
              refine headH_all (rs := [7, 14]) (by kernel_rfl) (by simp) (by kernel_rfl) ?_; intro i0 hi0; simp only [List.mem_cons, List.not_mem_nil, or_false] at hi0
              rcases hi0 with rfl | rfl
              · refine headH_op rfl (fun K hK => ?_); go_simp; have HAP2 := Lib.hid (HAP.out.alloc (.cells #[.slice (some ⟨wb, 0, none⟩) n n] 24)); have HX1 := Lib.hid (show ((wd).alloc (.cells #[.slice (some ⟨wb, 0, none⟩) n n] 24)).heap[(wd).heap.size]? = some (.cells #[.slice (some ⟨wb, 0, none⟩) n n] 24) from heap_alloc_new _ _); clear HAP; have HAP := HAP2; clear HAP2; refine hK.out _ _ ⟨((bcell HAP.out.below).1 _ _ (by omega)).trans c2, ((bcell HAP.out.below).1 _ _ (by omega)).trans c3⟩ (fun hS => ?_); clear hK K; (try dsimp only [Act.put]); (try simp only [List.setIfInBounds_toArray, List.set_cons_zero, List.set_cons_succ])
                generalize World.alloc wd _ = W1 at *
                refine headH_all (rs := [8, 14]) (by kernel_rfl) (by simp) (by kernel_rfl) ?_; intro i0 hi0; simp only [List.mem_cons, List.not_mem_nil, or_false] at hi0
                rcases hi0 with rfl | rfl
                · refine headH_op rfl (fun K hK => ?_); refine step_append_lies _ rfl _ _ 138 rfl (w.heap.size + 2) 24 i1 (.slice none 0 0) 1 24 Tryz.underlying138 hi1 hz10 hz11 hz12 rfl (by decide) _ i _ rfl HAP.out.wown _ 1 1 [.slice (some ⟨wb, 0, none⟩) n n] rfl rfl (World.news_of_block HX1.out) one_slice (by decide) hb63 hb47 (by have := HAP.out.below.size; omega) _ rfl ?_; intro g1 p1 W2 hown hgrow _ _; have HAP2 := Lib.hid (HAP.out.app1 hgrow hown)
                  clear HAP hown hgrow; have HAP := HAP2; clear HAP2; refine hK.out _ _ ⟨((bcell HAP.out.below).1 _ _ (by omega)).trans c2, ((bcell HAP.out.below).1 _ _ (by omega)).trans c3⟩ (fun hS => ?_); clear hK K; (try dsimp only [Act.put]); (try simp only [List.setIfInBounds_toArray, List.set_cons_zero, List.set_cons_succ])
                  refine headH_all (rs := [14]) (by kernel_rfl) (by simp) (by kernel_rfl) ?_; intro i0 hi0; simp only [List.mem_cons, List.not_mem_nil, or_false] at hi0
                  subst hi0
                  refine headH_op rfl (fun K hK => ?_); go_simp; have HAP2 := Lib.hid (HAP.out.alloc (.cells #[.slice (some ⟨rb, 0, none⟩) (n + 1) (n + 1)] 46)); have HX2 := Lib.hid (show ((W2).alloc (.cells #[.slice (some ⟨rb, 0, none⟩) (n + 1) (n + 1)] 46)).heap[(W2).heap.size]? = some (.cells #[.slice (some ⟨rb, 0, none⟩) (n + 1) (n + 1)] 46) from heap_alloc_new _ _); clear HAP; have HAP := HAP2; clear HAP2; refine hK.out _ _ ⟨((bcell HAP.out.below).1 _ _ (by omega)).trans c2, ((bcell HAP.out.below).1 _ _ (by omega)).trans c3⟩ (fun hS => ?_); clear hK K; (try dsimp only [Act.put]); (try simp only [List.setIfInBounds_toArray, List.set_cons_zero, List.set_cons_succ])
                  generalize World.alloc W2 _ = W3 at *
                  refine headH_all (rs := [15]) (by kernel_rfl) (by simp) (by kernel_rfl) ?_; intro i0 hi0; simp only [List.mem_cons, List.not_mem_nil, or_false] at hi0
                  subst hi0
                  refine headH_op rfl (fun K hK => ?_); refine step_append_lies _ rfl _ _ 67 rfl (w.heap.size + 2) 46 i2 (.slice none 0 0) 1 24 Tryz.underlying67 hi2 hz20 hz21 hz22 rfl (by decide) _ i _ rfl HAP.out.rown _ 1 1 [.slice (some ⟨rb, 0, none⟩) (n + 1) (n + 1)] rfl rfl (World.news_of_block HX2.out) one_slice (by decide) hb63 hb47 (by have := HAP.out.below.size; omega) _ rfl ?_; intro g2 p2 W4 hown hgrow _ _; have HAP2 := Lib.hid (HAP.out.app2 hgrow hown)
                  clear HAP hown hgrow; have HAP := HAP2; clear HAP2; refine hK.out _ _ ⟨((bcell HAP.out.below).1 _ _ (by omega)).trans c2, ((bcell HAP.out.below).1 _ _ (by omega)).trans c3⟩ (fun hS => ?_); clear hK K; (try dsimp only [Act.put]); (try simp only [List.setIfInBounds_toArray, List.set_cons_zero, List.set_cons_succ])
                  change tailL _ _ _ _ _ _ _ _; refine ⟨by kernel_rfl, ?_⟩; simp only [List.drop_succ_cons, List.drop_zero]; have k2 := ((bcell HAP.out.below).1 (w.heap.size + 1) 2 (by omega)).trans c2; have k3 := ((bcell HAP.out.below).1 (w.heap.size + 1) 3 (by omega)).trans c3; have m2 := ((bcell HAP.out.below).2 (w.heap.size + 1) 2 (by omega)).trans f2; have m3 := ((bcell HAP.out.below).2 (w.heap.size + 1) 3 (by omega)).trans f3; have HLK := Lib.hid (LK.next HLQ.out HAP.out); clear HAP HLQ c2 c3 f2 f3 hS; go_wp2; go_roundw; (· exact ⟨i + 1, _, _, _, _, _, _, by omega, by go_num, HLK⟩); (· simp [intOf]; omega)
                · refine headH_op rfl (fun K hK => ?_); go_simp; have HAP2 := Lib.hid (HAP.out.alloc (.cells #[.slice (some ⟨rb, 0, none⟩) (n + 1) (n + 1)] 46)); have HX2 := Lib.hid (show ((W1).alloc (.cells #[.slice (some ⟨rb, 0, none⟩) (n + 1) (n + 1)] 46)).heap[(W1).heap.size]? = some (.cells #[.slice (some ⟨rb, 0, none⟩) (n + 1) (n + 1)] 46) from heap_alloc_new _ _); clear HAP; have HAP := HAP2; clear HAP2; refine hK.out _ _ ⟨((bcell HAP.out.below).1 _ _ (by omega)).trans c2, ((bcell HAP.out.below).1 _ _ (by omega)).trans c3⟩ (fun hS => ?_); clear hK K; (try dsimp only [Act.put]); (try simp only [List.setIfInBounds_toArray, List.set_cons_zero, List.set_cons_succ])
                  have HX1' := Lib.hid ((Below.heap_alloc W1 (.cells #[.slice (some ⟨rb, 0, none⟩) (n + 1) (n + 1)] 46) _ (Array.getElem?_eq_some_iff.1 HX1.out).1).trans HX1.out); clear HX1; have HX1 := HX1'; clear HX1'
                  generalize World.alloc W1 _ = W2 at *
                  refine headH_all (rs := [8]) (by kernel_rfl) (by simp) (by kernel_rfl) ?_; intro i0 hi0; simp only [List.mem_cons, List.not_mem_nil, or_false] at hi0
                  subst hi0
                  refine headH_op rfl (fun K hK => ?_); refine step_append_lies _ rfl _ _ 138 rfl (w.heap.size + 2) 24 i1 (.slice none 0 0) 1 24 Tryz.underlying138 hi1 hz10 hz11 hz12 rfl (by decide) _ i _ rfl HAP.out.wown _ 1 1 [.slice (some ⟨wb, 0, none⟩) n n] rfl rfl (World.news_of_block HX1.out) one_slice (by decide) hb63 hb47 (by have := HAP.out.below.size; omega) _ rfl ?_; intro g1 p1 W3 hown hgrow _ _; have HAP2 := Lib.hid (HAP.out.app1 hgrow hown)
                  have HX2' := Lib.hid ((hgrow.block _ (Array.getElem?_eq_some_iff.1 HX2.out).1 (Ne.symm (own_off HAP.out.wown HX2.out (by decide)))).trans HX2.out); clear HX2; have HX2 := HX2'; clear HX2'
                  clear HAP hown hgrow; have HAP := HAP2; clear HAP2; refine hK.out _ _ ⟨((bcell HAP.out.below).1 _ _ (by omega)).trans c2, ((bcell HAP.out.below).1 _ _ (by omega)).trans c3⟩ (fun hS => ?_); clear hK K; (try dsimp only [Act.put]); (try simp only [List.setIfInBounds_toArray, List.set_cons_zero, List.set_cons_succ])
                  refine headH_all (rs := [15]) (by kernel_rfl) (by simp) (by kernel_rfl) ?_; intro i0 hi0; simp only [List.mem_cons, List.not_mem_nil, or_false] at hi0
                  subst hi0
                  refine headH_op rfl (fun K hK => ?_); refine step_append_lies _ rfl _ _ 67 rfl (w.heap.size + 2) 46 i2 (.slice none 0 0) 1 24 Tryz.underlying67 hi2 hz20 hz21 hz22 rfl (by decide) _ i _ rfl HAP.out.rown _ 1 1 [.slice (some ⟨rb, 0, none⟩) (n + 1) (n + 1)] rfl rfl (World.news_of_block HX2.out) one_slice (by decide) hb63 hb47 (by have := HAP.out.below.size; omega) _ rfl ?_; intro g2 p2 W4 hown hgrow _ _; have HAP2 := Lib.hid (HAP.out.app2 hgrow hown)
                  clear HAP hown hgrow; have HAP := HAP2; clear HAP2; refine hK.out _ _ ⟨((bcell HAP.out.below).1 _ _ (by omega)).trans c2, ((bcell HAP.out.below).1 _ _ (by omega)).trans c3⟩ (fun hS => ?_); clear hK K; (try dsimp only [Act.put]); (try simp only [List.setIfInBounds_toArray, List.set_cons_zero, List.set_cons_succ])
                  change tailL _ _ _ _ _ _ _ _; refine ⟨by kernel_rfl, ?_⟩; simp only [List.drop_succ_cons, List.drop_zero]; have k2 := ((bcell HAP.out.below).1 (w.heap.size + 1) 2 (by omega)).trans c2; have k3 := ((bcell HAP.out.below).1 (w.heap.size + 1) 3 (by omega)).trans c3; have m2 := ((bcell HAP.out.below).2 (w.heap.size + 1) 2 (by omega)).trans f2; have m3 := ((bcell HAP.out.below).2 (w.heap.size + 1) 3 (by omega)).trans f3; have HLK := Lib.hid (LK.next HLQ.out HAP.out); clear HAP HLQ c2 c3 f2 f3 hS; go_wp2; go_roundw; (· exact ⟨i + 1, _, _, _, _, _, _, by omega, by go_num, HLK⟩); (· simp [intOf]; omega)
              · refine headH_op rfl (fun K hK => ?_); go_simp; have HAP2 := Lib.hid (HAP.out.alloc (.cells #[.slice (some ⟨rb, 0, none⟩) (n + 1) (n + 1)] 46)); have HX2 := Lib.hid (show ((wd).alloc (.cells #[.slice (some ⟨rb, 0, none⟩) (n + 1) (n + 1)] 46)).heap[(wd).heap.size]? = some (.cells #[.slice (some ⟨rb, 0, none⟩) (n + 1) (n + 1)] 46) from heap_alloc_new _ _); clear HAP; have HAP := HAP2; clear HAP2; refine hK.out _ _ ⟨((bcell HAP.out.below).1 _ _ (by omega)).trans c2, ((bcell HAP.out.below).1 _ _ (by omega)).trans c3⟩ (fun hS => ?_); clear hK K; (try dsimp only [Act.put]); (try simp only [List.setIfInBounds_toArray, List.set_cons_zero, List.set_cons_succ])
                generalize World.alloc wd _ = W1 at *
                refine headH_all (rs := [7]) (by kernel_rfl) (by simp) (by kernel_rfl) ?_; intro i0 hi0; simp only [List.mem_cons, List.not_mem_nil, or_false] at hi0
                subst hi0
                refine headH_op rfl (fun K hK => ?_); go_simp; have HAP2 := Lib.hid (HAP.out.alloc (.cells #[.slice (some ⟨wb, 0, none⟩) n n] 24)); have HX1 := Lib.hid (show ((W1).alloc (.cells #[.slice (some ⟨wb, 0, none⟩) n n] 24)).heap[(W1).heap.size]? = some (.cells #[.slice (some ⟨wb, 0, none⟩) n n] 24) from heap_alloc_new _ _); clear HAP; have HAP := HAP2; clear HAP2; refine hK.out _ _ ⟨((bcell HAP.out.below).1 _ _ (by omega)).trans c2, ((bcell HAP.out.below).1 _ _ (by omega)).trans c3⟩ (fun hS => ?_); clear hK K; (try dsimp only [Act.put]); (try simp only [List.setIfInBounds_toArray, List.set_cons_zero, List.set_cons_succ])
                have HX2' := Lib.hid ((Below.heap_alloc W1 (.cells #[.slice (some ⟨wb, 0, none⟩) n n] 24) _ (Array.getElem?_eq_some_iff.1 HX2.out).1).trans HX2.out); clear HX2; have HX2 := HX2'; clear HX2'
                generalize World.alloc W1 _ = W2 at *
                refine headH_all (rs := [8]) (by kernel_rfl) (by simp) (by kernel_rfl) ?_; intro i0 hi0; simp only [List.mem_cons, List.not_mem_nil, or_false] at hi0
                subst hi0
                refine headH_op rfl (fun K hK => ?_); refine step_append_lies _ rfl _ _ 138 rfl (w.heap.size + 2) 24 i1 (.slice none 0 0) 1 24 Tryz.underlying138 hi1 hz10 hz11 hz12 rfl (by decide) _ i _ rfl HAP.out.wown _ 1 1 [.slice (some ⟨wb, 0, none⟩) n n] rfl rfl (World.news_of_block HX1.out) one_slice (by decide) hb63 hb47 (by have := HAP.out.below.size; omega) _ rfl ?_; intro g1 p1 W3 hown hgrow _ _; have HAP2 := Lib.hid (HAP.out.app1 hgrow hown)
                have HX2' := Lib.hid ((hgrow.block _ (Array.getElem?_eq_some_iff.1 HX2.out).1 (Ne.symm (own_off HAP.out.wown HX2.out (by decide)))).trans HX2.out); clear HX2; have HX2 := HX2'; clear HX2'
                clear HAP hown hgrow; have HAP := HAP2; clear HAP2; refine hK.out _ _ ⟨((bcell HAP.out.below).1 _ _ (by omega)).trans c2, ((bcell HAP.out.below).1 _ _ (by omega)).trans c3⟩ (fun hS => ?_); clear hK K; (try dsimp only [Act.put]); (try simp only [List.setIfInBounds_toArray, List.set_cons_zero, List.set_cons_succ])
                refine headH_all (rs := [15]) (by kernel_rfl) (by simp) (by kernel_rfl) ?_; intro i0 hi0; simp only [List.mem_cons, List.not_mem_nil, or_false] at hi0
                subst hi0
                refine headH_op rfl (fun K hK => ?_); refine step_append_lies _ rfl _ _ 67 rfl (w.heap.size + 2) 46 i2 (.slice none 0 0) 1 24 Tryz.underlying67 hi2 hz20 hz21 hz22 rfl (by decide) _ i _ rfl HAP.out.rown _ 1 1 [.slice (some ⟨rb, 0, none⟩) (n + 1) (n + 1)] rfl rfl (World.news_of_block HX2.out) one_slice (by decide) hb63 hb47 (by have := HAP.out.below.size; omega) _ rfl ?_; intro g2 p2 W4 hown hgrow _ _; have HAP2 := Lib.hid (HAP.out.app2 hgrow hown)
                clear HAP hown hgrow; have HAP := HAP2; clear HAP2; refine hK.out _ _ ⟨((bcell HAP.out.below).1 _ _ (by omega)).trans c2, ((bcell HAP.out.below).1 _ _ (by omega)).trans c3⟩ (fun hS => ?_); clear hK K; (try dsimp only [Act.put]); (try simp only [List.setIfInBounds_toArray, List.set_cons_zero, List.set_cons_succ])
                change tailL _ _ _ _ _ _ _ _; refine ⟨by kernel_rfl, ?_⟩; simp only [List.drop_succ_cons, List.drop_zero]; have k2 := ((bcell HAP.out.below).1 (w.heap.size + 1) 2 (by omega)).trans c2; have k3 := ((bcell HAP.out.below).1 (w.heap.size + 1) 3 (by omega)).trans c3; have m2 := ((bcell HAP.out.below).2 (w.heap.size + 1) 2 (by omega)).trans f2; have m3 := ((bcell HAP.out.below).2 (w.heap.size + 1) 3 (by omega)).trans f3; have HLK := Lib.hid (LK.next HLQ.out HAP.out); clear HAP HLQ c2 c3 f2 f3 hS; go_wp2; go_roundw; (· exact ⟨i + 1, _, _, _, _, _, _, by omega, by go_num, HLK⟩); (· simp [intOf]; omega)
            · obtain ⟨k, rfl⟩ : ∃ k, j2 = k + 1 := ⟨j2 - 1, by omega⟩
              obtain rfl : y = (k : Int) := by have := HY.out; omega
              have hk : k < n := by omega
              have hk' : (k : Int) < (n : Int) := by omega
              clear HY h0 hj2
              obtain ⟨sb, soff, rfl, hsB, s0, s1⟩ := (HS.out.below (l3.mono hBw)).get hk
              have hsz : sb < wr.heap.size := by omega
              obtain ⟨r0, r1⟩ := HLP.out.sr.cell (j := k + 1) (by omega)
              obtain ⟨q0, q1⟩ := HLP.out.sr.cell (j := k) (by omega)
              have f0 := HLP.out.sr.frozen (k * 2)
              have f1 := HLP.out.sr.frozen (k * 2 + 1)
              have w0 := HLP.out.ir.cell hk
              have hrz := HLP.out.sr.lt
              have hwz := HLP.out.ir.lt
              have hwk := HWB.out k
              obtain ⟨sp1, sp2, sp3⟩ := HSh.out.span k hk
              have hsw : ∀ c, 0 ≤ (bs i).w c ∧ (bs i).w c ≤ 1000000 := fun c => HSh.out.w hlt c
              have hbl := rest_bound (n := n) (b := bs i) (f := sLo ss) hsw (fun c hc => by obtain ⟨h1, h2, h3⟩ := HSh.out.span c hc; unfold sLo; omega) (n - (k + 1)) (by omega)
              have hbh := rest_bound (n := n) (b := bs i) (f := sHi ss) hsw (fun c hc => by obtain ⟨h1, h2, h3⟩ := HSh.out.span c hc; unfold sHi; omega) (n - (k + 1)) (by omega)
              have hst : restT n ss (bs i) (n - (k + 1)) (k + 1) = ⟨rest n (bs i) (sLo ss) (n - (k + 1)), rest n (bs i) (sHi ss) (n - (k + 1))⟩ := by
                unfold restT restS
                rw [if_pos (by omega)]
              rw [hst] at r0 r1
              have hwe : wUp qcs qws j k = (bs i).w k := by rw [HBB.out]; rfl
              rw [hwe] at w0
              have hwk2 := hsw k
              have hn1 : n - (k + 1) + 1 = n - k := by omega
              have hn2 : n - (n - (k + 1) + 1) = k := by omega
              have e1 : rest n (bs i) (sLo ss) (n - k) = rest n (bs i) (sLo ss) (n - (k + 1)) + (bs i).w k * (ss k).lo := by
                rw [← hn1, rest, hn2]; rfl
              have e2 : rest n (bs i) (sHi ss) (n - k) = rest n (bs i) (sHi ss) (n - (k + 1)) + (bs i).w k * (ss k).hi := by
                rw [← hn1, rest, hn2]; rfl
              have HE := Lib.hid (fun cc (hc : cc < n + 1) => show (if cc = k then (⟨rest n (bs i) (sLo ss) (n - (k + 1)) + (bs i).w k * (ss k).lo, rest n (bs i) (sHi ss) (n - (k + 1)) + (bs i).w k * (ss k).hi⟩ : SV) else restT n ss (bs i) (n - (k + 1)) cc) = restT n ss (bs i) (n - k) cc from by
                have := restT_step (n := n) (t := n - (k + 1)) (c := cc) (ss := ss) (b := bs i) (by omega) hc
                rw [hn2, hn1, e1, e2] at this
                exact this)
              have p1 : 0 ≤ (bs i).w k * (ss k).lo := Int.mul_nonneg hwk2.1 sp1
              have p2 : (bs i).w k * (ss k).lo ≤ 1000000 * 1000 := Int.mul_le_mul hwk2.2 (by omega) sp1 (by omega)
              have p3 : 0 ≤ (bs i).w k * (ss k).hi := Int.mul_nonneg hwk2.1 (by omega)
              have p4 : (bs i).w k * (ss k).hi ≤ 1000000 * 1000 := Int.mul_le_mul hwk2.2 (by omega) (by omega) (by omega)
              have b1 : rest n (bs i) (sLo ss) (n - (k + 1)) ≤ 40000000000 := by omega
              have b2 : rest n (bs i) (sHi ss) (n - (k + 1)) ≤ 40000000000 := by omega
              have b3 := hbl.1
              have b4 := hbh.1
              clear hst hwe e1 e2 hn1 hn2 hbl hbh hsw hwk hwk2
              generalize rest n (bs i) (sLo ss) (n - (k + 1)) = RL at *
              generalize rest n (bs i) (sHi ss) (n - (k + 1)) = RH at *
              generalize hX1 : (bs i).w k * (ss k).lo = X1 at *
              generalize hX2 : (bs i).w k * (ss k).hi = X2 at *
              generalize (bs i).w k = wk at *
              generalize (ss k).lo = slo at *
              generalize (ss k).hi = shi at *
              have u1 : IntKind.i64.wrap ((k : Int) + 1) = (k : Int) + 1 := IntWalk.i64_in _ (by omega)
              have u2 : (0 : Int) ≤ (k : Int) + 1 := by omega
              have u3 : ((k : Int) + 1).toNat = k + 1 := by omega
              have u4 : (k : Int) + 1 < (n : Int) + 1 := by omega
              have u5 : IntKind.i64.wrap X1 = X1 := IntWalk.i64_in _ (by omega)
              have u6 : IntKind.i64.wrap X2 = X2 := IntWalk.i64_in _ (by omega)
              have u7 : IntKind.i64.wrap (RL + X1) = RL + X1 := IntWalk.i64_in _ (by omega)
              have u8 : IntKind.i64.wrap (RH + X2) = RH + X2 := IntWalk.i64_in _ (by omega)
              go_upto_region 15 with (fail)
              (refine wp_region_calm_tail (wr.heap.size) 40 (by kernel_rfl) (by kernel_rfl) ?_; simp only [List.take_succ_cons, List.take_zero, List.drop_succ_cons, List.drop_zero]; (repeat (first | go_big_quiet_step (fail) | quiet_step (fail))); refine wpQuiet_nil ?_; intro _ hw'; obtain ⟨xq, hw''⟩ := hw'; subst hw'')
              go_wp2
              go_roundw
              case rel => exact ⟨k, _, by omega, rfl, Lib.hid rfl, Lib.hid ((HLP.out.step xq.below).setr (by omega) _ _ HE.out)⟩
              case measure => simp [intOf]
    · obtain rfl : i = m := by omega
      have hlt' : ¬ (i : Int) < (i : Int) := by omega
      go_wp2
      exact HRES.out _ _ rfl _ _ _ _ _ _ HL.out
end Go.Proofs.YtkdopjkdokgipaaGreatDoor
