/- Texts put together: LawM, LawQ. -/
import Derived.Test.YtgcepjminlapiaaLawP
import Derived.Test.YtgcepjminlapiaaOpenX
namespace Go.Proofs.Ytgcepjminlapiaa
open Go.RowKit
set_option linter.unusedVariables false
set_option linter.unusedSimpArgs false
set_option maxRecDepth 100000 in
set_option maxHeartbeats 2000000 in
theorem PT_in (a : Option Addr) (n c : Nat) (ps : Nat → PR) (time : Int) (ha : Option Addr) (m d : Nat) (hs : Nat → HV) (ra : Option Addr) (rd : Nat) (rs : Nat → SV) (oa : Option Addr) (on od : Nat) (os : Nat → HV) (w : World) (B : Nat) (hBw : B ≤ w.heap.size) (hP : Planes B w a n ps) (hH : Hits B w ha m hs) (hR : Spans B w ra m rs) (hO : Hits B w oa on os) (hsm : smallB n ps = true) (hCk : checkB n ps = true) (hT : withinB time (-1000000000) 1000000000 = true) (hm : m ≤ 10) (hm0 : m ≠ 0) (ho : on ≤ 10) : Calls Try.prog 14 #[setupV a n c, .int .i64 time, .slice ha m d, .slice ra m rd, .slice oa on od] w fun e w' => e = .returned (.bool true) ∧ Below w.heap.size w w' := by
  have HP := Lib.hid hP
  have HH := Lib.hid hH
  have HR := Lib.hid hR
  have HO := Lib.hid hO
  have HT := Lib.hid hT
  have hn := (checkB_n hCk).2
  clear hP hH hR hO
  have h1' : ¬ (10 : Int) < (m : Int) := by omega
  have h2' : ((m : Int) == 0) = false := by rw [beq_eq_false_iff_ne]; omega
  have h4' : ¬ (10 : Int) < (on : Int) := by omega
  go_enter Try.func14, Try.ntmps14
  go_upto_region 3 with (first | (go_at_call 15; refine (small_any a n c ps _ B (by simp; omega) (HP.out.below ((Below.refl B w).alloc hBw _))).mono ?_; rintro e wy ⟨rfl, hby⟩; rw [hsm]; obtain ⟨l0, l1, l2, l3⟩ := LF_step LF_start hby; clear hby) | (go_at_call 19; refine (refSetup_any a n c ps _ B (by omega) (HP.out.below (l3.mono hBw))).mono ?_; rintro e wy ⟨rfl, hby⟩; rw [hCk]; have hL := LF_step ⟨l0, l1, l2, l3⟩ hby; clear l0 l1 l2 l3; obtain ⟨l0, l1, l2, l3⟩ := hL; clear hby) | (go_at_call 24; refine (refIn_any _ _ _ _).mono ?_; rintro e w' ⟨rfl, rfl⟩))
  go_upto_block 0 with (fail)
  go_cut [11] from 12 (fun s11 wx => ∃ (va : Option Addr) (vc : Nat), s11 = .slice va m vc ∧ Hid (TL a n c w va vc m (hC (tgL ps time hs rs m)) wx ∧ ∀ j, j < m → tgB n ps time (hs j) (rs j) = true))
  · go_wp2
    go_loopw [11, 12] (fun s11 s12 wr => ∃ (i : Nat) (va : Option Addr) (vc : Nat), i ≤ m ∧ s12 = .int .i64 (i : Int) ∧ s11 = .slice va i vc ∧ Hid (TL a n c w va vc i (hC (tgL ps time hs rs i)) wr ∧ ∀ j, j < i → tgB n ps time (hs j) (rs j) = true)) (fun _ s12 _ => m - (intOf s12).toNat)
    case atStart => exact ⟨0, none, 0, by omega, rfl, rfl, Lib.hid ⟨⟨⟨l0, l1, l2, l3⟩, World.ownsRow_nil _ _ _ _⟩, fun j h => by omega⟩⟩
    case round =>
      clear l0 l1 l2 l3
      obtain ⟨i, va, vc, hi, rfl, rfl, HL⟩ := hrel
      obtain ⟨l0, l1, l2, l3⟩ := HL.out.1.lf
      by_cases hlt : i < m
      · have hlt' : (i : Int) < (m : Int) := by omega
        obtain ⟨b, off, rfl, hbB, y0, y1, y2, y3, y4, y5⟩ := (HH.out.below (l3.mono hBw)).get hlt
        obtain ⟨rb, roff, rfl, hrB, r0, r1⟩ := (HR.out.below (l3.mono hBw)).one hlt
        have hbz : b < wr.heap.size := by omega
        have hrz : rb < wr.heap.size := by omega
        generalize hgg : hs i = h at y0 y1 y2 y3 y4 y5
        generalize hgr : rs i = r at r0 r1
        have HG := Lib.hid (And.intro hgg hgr)
        clear hgg hgr
        obtain ⟨pl, chn, mny, dri, cha, tim⟩ := h
        obtain ⟨rlo, rhi⟩ := r
        dsimp only at y0 y1 y2 y3 y4 y5 r0 r1
        go_upto_region 8 with (fail)
        have HX := Lib.hid (show (wr.alloc (.cells #[.int .i64 pl, .int .i64 chn, .int .i64 mny, .int .i64 dri, .int .i64 cha, .int .i64 tim] 26)).heap[wr.heap.size]? = some (.cells #[.int .i64 pl, .int .i64 chn, .int .i64 mny, .int .i64 dri, .int .i64 cha, .int .i64 tim] 26) from heapQ_new rfl)
        have HB1 := Lib.hid (show Below wr.heap.size wr (wr.alloc (.cells #[.int .i64 pl, .int .i64 chn, .int .i64 mny, .int .i64 dri, .int .i64 cha, .int .i64 tim] 26)) from (Below.refl _ _).alloc (Nat.le_refl _) _)
        clear y0 y1 y2 y3 y4 y5
        generalize World.alloc wr _ = W1 at *
        have HL1 := Lib.hid (HL.out.1.step HB1.out)
        have HTG := Lib.hid HL.out.2
        have HOX := Lib.hid (show (Value.slice va i vc).ownBlock ≠ some wr.heap.size from fun e => Nat.lt_irrefl _ (HL.out.1.own.lt _ e).2)
        have r2 := ((bcell HB1.out).1 _ _ hrz).trans r0
        have r3 := ((bcell HB1.out).1 _ _ hrz).trans r1
        have hxw : w.heap.size < wr.heap.size := l2
        have hz1 := HB1.out.size
        clear l0 l1 l2 l3 r0 r1 HL
        obtain ⟨l0, l1, l2, l3⟩ := HL1.out.lf
        have hxz : wr.heap.size < W1.heap.size := (Array.getElem?_eq_some_iff.1 HX.out).1
        clear HB1
        have q0 : W1.cell? ⟨wr.heap.size, 0, none⟩ = some (.int .i64 pl) := cell_of_row _ _ _ _ _ _ HX.out
        have hbz1 : b < W1.heap.size := by omega
        have hrz1 : rb < W1.heap.size := by omega
        generalize wr.heap.size = hx at *
        cases p1 : withinB pl 0 ((n : Int) - 1)
        · go_wp2_with (first | (go_at_call 24; refine (refIn_any _ _ _ _).mono ?_; rintro e w' ⟨rfl, rfl⟩) | (go_at_call 16; refine (lawKnown_any _).mono ?_; rintro e wy ⟨rfl, hby⟩; have hL := LF_step ⟨l0, l1, l2, l3⟩ hby; clear l0 l1 l2 l3; obtain ⟨l0, l1, l2, l3⟩ := hL; clear hby))
          go_ret
          exact ⟨rfl, l3⟩
        · cases p2 : withinB rlo 0 100
          · go_wp2_with (first | (go_at_call 24; refine (refIn_any _ _ _ _).mono ?_; rintro e w' ⟨rfl, rfl⟩) | (go_at_call 16; refine (lawKnown_any _).mono ?_; rintro e wy ⟨rfl, hby⟩; have hL := LF_step ⟨l0, l1, l2, l3⟩ hby; clear l0 l1 l2 l3; obtain ⟨l0, l1, l2, l3⟩ := hL; clear hby))
            go_ret
            exact ⟨rfl, l3⟩
          · cases p3 : withinB rhi 0 100
            · go_wp2_with (first | (go_at_call 24; refine (refIn_any _ _ _ _).mono ?_; rintro e w' ⟨rfl, rfl⟩) | (go_at_call 16; refine (lawKnown_any _).mono ?_; rintro e wy ⟨rfl, hby⟩; have hL := LF_step ⟨l0, l1, l2, l3⟩ hby; clear l0 l1 l2 l3; obtain ⟨l0, l1, l2, l3⟩ := hL; clear hby))
              go_ret
              exact ⟨rfl, l3⟩
            · have HPB := Lib.hid (And.intro p1 (And.intro p2 p3))
              go_upto_region 10 with (go_at_call 24; refine (refIn_any _ _ _ _).mono ?_; rintro e w' ⟨rfl, rfl⟩)
              obtain ⟨k, hkn, rfl⟩ : ∃ k : Nat, k < n ∧ pl = (k : Int) := by
                have := withinB_iff.1 p1
                exact ⟨pl.toNat, by omega, by omega⟩
              have hkn' : (k : Int) < (n : Int) := by omega
              obtain ⟨pb, poff, hae, hpB, ⟨c0, c1, c2, c3, c4, c5, c6, c7, c8, c9, c10, c11, c12, c13, c14⟩, _⟩ := (HP.out.below (l3.mono hBw)).get hkn
              subst hae
              have hpz : pb < W1.heap.size := by omega
              have HSh := Lib.hid (properB_shaped (checkB_plane hCk hkn))
              generalize hpp : ps k = p at c0 c1 c2 c3 c4 c5 c6 c7 c8 c9 c10 c11 c12 c13 c14 HSh
              have HPP := Lib.hid hpp
              clear hpp
              obtain ⟨kind, view, z, first, pitch, strips, spill, olo, ohi, clo, chi, jitter, least, da, dn, dc, ea, en, ec, ds, es⟩ := p
              dsimp only at c0 c1 c2 c3 c4 c5 c6 c7 c8 c9 c10 c11 c12 c13 c14
              go_upto_region 11 with (fail)
              have HB2 := Lib.hid (show Below W1.heap.size W1 (W1.alloc (.cells #[.int .i64 kind, .int .i64 view, .int .i64 z, .int .i64 first, .int .i64 pitch, .int .i64 strips, .int .i64 spill, .int .i64 olo, .int .i64 ohi, .int .i64 clo, .int .i64 chi, .int .i64 jitter, .int .i64 least, .slice da dn dc, .slice ea en ec] 49)) from (Below.refl _ _).alloc (Nat.le_refl _) _)
              have HY := Lib.hid (show (W1.alloc (.cells #[.int .i64 kind, .int .i64 view, .int .i64 z, .int .i64 first, .int .i64 pitch, .int .i64 strips, .int .i64 spill, .int .i64 olo, .int .i64 ohi, .int .i64 clo, .int .i64 chi, .int .i64 jitter, .int .i64 least, .slice da dn dc, .slice ea en ec] 49)).heap[W1.heap.size]? = some (.cells #[.int .i64 kind, .int .i64 view, .int .i64 z, .int .i64 first, .int .i64 pitch, .int .i64 strips, .int .i64 spill, .int .i64 olo, .int .i64 ohi, .int .i64 clo, .int .i64 chi, .int .i64 jitter, .int .i64 least, .slice da dn dc, .slice ea en ec] 49) from heapQ_new rfl)
              clear c0 c1 c2 c3 c4 c5 c6 c7 c8 c9 c10 c11 c12 c13 c14 l0 l1 l2 l3
              generalize World.alloc W1 _ = W2 at *
              have HL2 := Lib.hid (HL1.out.step HB2.out)
              have HX2 := Lib.hid ((HB2.out.block _ hxz).trans HX.out)
              have r4 := ((bcell HB2.out).1 _ _ hrz1).trans r2
              have r5 := ((bcell HB2.out).1 _ _ hrz1).trans r3
              have hz2 := HB2.out.size
              have hxy : hx ≠ W1.heap.size := by omega
              have hpxz : W1.heap.size < W2.heap.size := (Array.getElem?_eq_some_iff.1 HY.out).1
              clear HB2 HX HL1 r2 r3 q0
              generalize W1.heap.size = px at *
              obtain ⟨l0, l1, l2, l3⟩ := HL2.out.lf
              have s0 : W2.cell? ⟨px, 0, none⟩ = some (.int .i64 kind) := cell_of_row _ _ _ _ _ _ HY.out
              by_cases hk3 : kind = 3
              · have hk3' : (kind != 3) = false := by simp [hk3]
                have HK3 := Lib.hid hk3
                have s9 : W2.cell? ⟨px, 9, none⟩ = some (.int .i64 clo) := cell_of_row _ _ _ _ _ _ HY.out
                have s10 : W2.cell? ⟨px, 10, none⟩ = some (.int .i64 chi) := cell_of_row _ _ _ _ _ _ HY.out
                have f5 : W2.frozen? ⟨hx, 5, none⟩ = false := frozen_of_row _ _ _ _ _ HX2.out
                have t5 : W2.cell? ⟨hx, 5, none⟩ = some (.int .i64 tim) := cell_of_row _ _ _ _ _ _ HX2.out
                clear hk3
                go_upto_region 14 with (fail)
                have HL3 := Lib.hid (HL2.out.box (hx := hx) (j := 5) (by omega) HOX.out (.int .i64 0))
                have HX4 := Lib.hid (heap_setCell_same W2 hx 5 _ _ (.int .i64 0) HX2.out)
                have hxz4 : hx < (W2.setCell ⟨hx, 5, none⟩ (.int .i64 0)).heap.size := by simp; omega
                have v9 : (W2.setCell ⟨hx, 5, none⟩ (.int .i64 0)).cell? ⟨px, 9, none⟩ = some (.int .i64 clo) := (World.cell?_of_block (heap_setCell_other W2 ⟨hx, 5, none⟩ px _ (Ne.symm hxy))).trans s9
                have v10 : (W2.setCell ⟨hx, 5, none⟩ (.int .i64 0)).cell? ⟨px, 10, none⟩ = some (.int .i64 chi) := (World.cell?_of_block (heap_setCell_other W2 ⟨hx, 5, none⟩ px _ (Ne.symm hxy))).trans s10
                clear s0 s9 s10 f5 t5 l0 l1 l2 l3 r4 r5
                cases p4 : withinB time clo chi
                · clear HL2 HX2 HX4
                  generalize World.setCell _ _ _ = W3 at *
                  obtain ⟨l0, l1, l2, l3⟩ := HL3.out.lf
                  go_wp2_with (first | (go_at_call 24; refine (refIn_any _ _ _ _).mono ?_; rintro e w' ⟨rfl, rfl⟩) | (go_at_call 16; refine (lawKnown_any _).mono ?_; rintro e wy ⟨rfl, hby⟩; have hL := LF_step ⟨l0, l1, l2, l3⟩ hby; clear l0 l1 l2 l3; obtain ⟨l0, l1, l2, l3⟩ := hL; clear hby))
                  go_ret
                  exact ⟨rfl, l3⟩
                · have HP4 := Lib.hid p4
                  have HTGI := Lib.hid (show tgH ps time (hs i) (rs i) = ⟨(k : Int), chn, mny, dri, cha, 0⟩ from by
                    rw [HG.out.1, HG.out.2]
                    unfold tgH tgT
                    dsimp only
                    rw [Int.toNat_natCast, HPP.out]
                    dsimp only
                    rw [if_pos HK3.out])
                  have HTB := Lib.hid (fun (h : ofB n ps ⟨(k : Int), chn, mny, dri, cha, 0⟩ = true) => show tgB n ps time (hs i) (rs i) = true from by
                    obtain ⟨e1, e2, e3⟩ := HPB.out
                    unfold tgB tgPre tgF
                    rw [HTGI.out, HG.out.1, HG.out.2]
                    dsimp only
                    rw [e1, e2, e3, Int.toNat_natCast, HPP.out, h]
                    simp [HP4.out])
                  go_upto_region 16 with (go_at_call 24; refine (refIn_any _ _ _ _).mono ?_; rintro e w' ⟨rfl, rfl⟩)
                  have HX5 := Lib.hid (show ((W2).setCell ⟨hx, 5, none⟩ (.int .i64 (0))).heap[hx]? = some (.cells #[.int .i64 (k : Int), .int .i64 chn, .int .i64 mny, .int .i64 dri, .int .i64 cha, .int .i64 (0)] 26) from HX4.out); clear HX4; clear HL2 HX2; generalize World.setCell _ _ _ = W3 at *; obtain ⟨l0, l1, l2, l3⟩ := HL3.out.lf; have q0 : W3.cell? ⟨hx, 0, none⟩ = some (.int .i64 (k : Int)) := cell_of_row _ _ _ _ _ _ HX5.out; have q1 : W3.cell? ⟨hx, 1, none⟩ = some (.int .i64 chn) := cell_of_row _ _ _ _ _ _ HX5.out; have q2 : W3.cell? ⟨hx, 2, none⟩ = some (.int .i64 mny) := cell_of_row _ _ _ _ _ _ HX5.out; have q3 : W3.cell? ⟨hx, 3, none⟩ = some (.int .i64 dri) := cell_of_row _ _ _ _ _ _ HX5.out; have q4 : W3.cell? ⟨hx, 4, none⟩ = some (.int .i64 cha) := cell_of_row _ _ _ _ _ _ HX5.out; have q5 : W3.cell? ⟨hx, 5, none⟩ = some (.int .i64 (0)) := cell_of_row _ _ _ _ _ _ HX5.out; have HEQ := Lib.hid (show hC (tgL ps time hs rs (i + 1)) = hC (tgL ps time hs rs i) ++ HV.cells ⟨(k : Int), chn, mny, dri, cha, 0⟩ from by rw [tgL, hC_append, hC_one, HTGI.out]); obtain ⟨i0, hi0, hz0, hz1, hz2⟩ := info_parts info_hit; cases hof : ofB n ps ⟨(k : Int), chn, mny, dri, cha, 0⟩; (· go_wp2_with (first | (go_at_call 20; refine (refHit_any (some ⟨pb, poff, none⟩) n c ps ⟨(k : Int), chn, mny, dri, cha, 0⟩ _ B (by omega) (HP.out.below (l3.mono hBw)) hCk).mono ?_; rintro e wy ⟨rfl, hby⟩; rw [hof]; have HL4 := Lib.hid (HL3.out.step hby); have HX6 := Lib.hid ((hby.block _ hxz4).trans HX5.out); have hz4 := hby.size; clear HL3 HX5 q0 q1 q2 q3 q4 q5 l0 l1 l2 l3 hby; obtain ⟨l0, l1, l2, l3⟩ := HL4.out.lf; have q0 : wy.cell? ⟨hx, 0, none⟩ = some (.int .i64 (k : Int)) := cell_of_row _ _ _ _ _ _ HX6.out; have q1 : wy.cell? ⟨hx, 1, none⟩ = some (.int .i64 chn) := cell_of_row _ _ _ _ _ _ HX6.out; have q2 : wy.cell? ⟨hx, 2, none⟩ = some (.int .i64 mny) := cell_of_row _ _ _ _ _ _ HX6.out; have q3 : wy.cell? ⟨hx, 3, none⟩ = some (.int .i64 dri) := cell_of_row _ _ _ _ _ _ HX6.out; have q4 : wy.cell? ⟨hx, 4, none⟩ = some (.int .i64 cha) := cell_of_row _ _ _ _ _ _ HX6.out; have q5 : wy.cell? ⟨hx, 5, none⟩ = some (.int .i64 (0)) := cell_of_row _ _ _ _ _ _ HX6.out) | (go_at_call 16; refine (lawKnown_any _).mono ?_; rintro e wy ⟨rfl, hby⟩; have hL := LF_step ⟨l0, l1, l2, l3⟩ hby; clear l0 l1 l2 l3; obtain ⟨l0, l1, l2, l3⟩ := hL; clear hby)); go_ret; exact ⟨rfl, l3⟩); (· have HTB2 := Lib.hid (HTB.out hof); have hwx : w.heap.size + 1 ≤ W3.heap.size := l1; go_wp2_with (first | (go_at_call 20; refine (refHit_any (some ⟨pb, poff, none⟩) n c ps ⟨(k : Int), chn, mny, dri, cha, 0⟩ _ B (by omega) (HP.out.below (l3.mono hBw)) hCk).mono ?_; rintro e wy ⟨rfl, hby⟩; rw [hof]; have HL4 := Lib.hid (HL3.out.step hby); have HX6 := Lib.hid ((hby.block _ hxz4).trans HX5.out); have hz4 := hby.size; clear HL3 HX5 q0 q1 q2 q3 q4 q5 l0 l1 l2 l3 hby; obtain ⟨l0, l1, l2, l3⟩ := HL4.out.lf; have q0 : wy.cell? ⟨hx, 0, none⟩ = some (.int .i64 (k : Int)) := cell_of_row _ _ _ _ _ _ HX6.out; have q1 : wy.cell? ⟨hx, 1, none⟩ = some (.int .i64 chn) := cell_of_row _ _ _ _ _ _ HX6.out; have q2 : wy.cell? ⟨hx, 2, none⟩ = some (.int .i64 mny) := cell_of_row _ _ _ _ _ _ HX6.out; have q3 : wy.cell? ⟨hx, 3, none⟩ = some (.int .i64 dri) := cell_of_row _ _ _ _ _ _ HX6.out; have q4 : wy.cell? ⟨hx, 4, none⟩ = some (.int .i64 cha) := cell_of_row _ _ _ _ _ _ HX6.out; have q5 : wy.cell? ⟨hx, 5, none⟩ = some (.int .i64 (0)) := cell_of_row _ _ _ _ _ _ HX6.out) | (at_builtin; refine wpList_append_own _ rfl _ _ 65 rfl (w.heap.size + 1) 26 i0 _ 6 48 Try.underlying65 hi0 hz0 hz1 hz2 rfl (by decide) _ i _ rfl (HL4.out.own.alloc _) ⟨wy.heap.size, 0, none⟩ 1 1 (HV.cells ⟨(k : Int), chn, mny, dri, cha, 0⟩) rfl rfl cells_new hv_one (by unfold maxLen; omega) (by omega) (by simp; omega) ?_; intro v' w6 hown6 hgrow6 hnil6; obtain ⟨a6, c6, rfl⟩ := own_len hown6; have HL6 := Lib.hid (TL.grow HL4.out hgrow6 hown6); clear hown6 hgrow6 hnil6)); go_roundw; (· exact ⟨i + 1, a6, c6, by omega, by go_num, rfl, Lib.hid ⟨by rw [HEQ.out]; exact HL6.out, fun j hj => by (by_cases e : j = i; subst e; exact HTB2.out; exact HTG.out j (by omega))⟩⟩); (· simp [intOf]; omega))
              · have hk3' : (kind != 3) = true := by simp [hk3]
                have HK3 := Lib.hid hk3
                have HS2 := Lib.hid (And.intro r4 r5)
                have hxz2 : hx < W2.heap.size := by omega
                have s1 : ∀ j, j < 15 → W2.cell? ⟨px, j, none⟩ = (#[.int .i64 kind, .int .i64 view, .int .i64 z, .int .i64 first, .int .i64 pitch, .int .i64 strips, .int .i64 spill, .int .i64 olo, .int .i64 ohi, .int .i64 clo, .int .i64 chi, .int .i64 jitter, .int .i64 least, .slice da dn dc, .slice ea en ec] : Array Value)[j]? := fun j _ => cell_of_row _ _ _ _ _ _ HY.out
                have f5 : W2.frozen? ⟨hx, 5, none⟩ = false := frozen_of_row _ _ _ _ _ HX2.out
                have t5 : W2.cell? ⟨hx, 5, none⟩ = some (.int .i64 tim) := cell_of_row _ _ _ _ _ _ HX2.out
                clear hk3
                go_upto_region 12 with (fail)
                obtain ⟨X, hX⟩ : ∃ X, X = readT clo chi jitter time rlo rhi := ⟨_, rfl⟩
                have HU := Lib.hid (show ∀ (W : World), Calls Try.prog 47 #[.agg #[.int .i64 kind, .int .i64 view, .int .i64 z, .int .i64 first, .int .i64 pitch, .int .i64 strips, .int .i64 spill, .int .i64 olo, .int .i64 ohi, .int .i64 clo, .int .i64 chi, .int .i64 jitter, .int .i64 least, .slice da dn dc, .slice ea en ec], .int .i64 time, .agg #[.int .i64 rlo, .int .i64 rhi]] W (fun e w' => e = .returned (.int .i64 X) ∧ Below W.heap.size W w') from fun W => by
                  rw [hX]
                  exact reading_any ⟨kind, view, z, first, pitch, strips, spill, olo, ohi, clo, chi, jitter, least, da, dn, dc, ea, en, ec, ds, es⟩ time rlo rhi W HSh.out (withinB_iff.1 HT.out) (withinB_iff.1 p2) (withinB_iff.1 p3))
                have HX3 := Lib.hid hX
                clear hX p1 p2 p3 hT
                have t0 : ∀ j, j < 6 → W2.cell? ⟨hx, j, none⟩ = (#[.int .i64 (k : Int), .int .i64 chn, .int .i64 mny, .int .i64 dri, .int .i64 cha, .int .i64 tim] : Array Value)[j]? := fun j _ => cell_of_row _ _ _ _ _ _ HX2.out
                have hrz2 : rb < W2.heap.size := by omega
                (refine wp_region_calm_tail (W2.heap.size) 8 (by kernel_rfl) (by kernel_rfl) ?_; simp only [List.take_succ_cons, List.take_zero, List.drop_succ_cons, List.drop_zero]; (repeat (first | go_big_quiet_step ((go_at_call 47; exact Calls.calm_of (Nat.le_refl _) (HU.out _))) | quiet_step ((go_at_call 47; exact Calls.calm_of (Nat.le_refl _) (HU.out _))))); refine wpQuiet_nil ?_; intro _ hw'; obtain ⟨xq, hw''⟩ := hw'; subst hw'')
                have hxb := xq.below
                have t6 : xq.val.cell? ⟨hx, 5, none⟩ = some (.int .i64 tim) := ((bcell hxb).1 _ _ hxz2).trans t5
                have f6 : xq.val.frozen? ⟨hx, 5, none⟩ = false := ((bcell hxb).2 _ _ hxz2).trans f5
                go_upto_region 16 with (fail)
                have HL3 := Lib.hid ((HL2.out.step hxb).box (hx := hx) (j := 5) (by omega) HOX.out (.int .i64 X))
                have HX4 := Lib.hid (heap_setCell_same xq.val hx 5 _ _ (.int .i64 X) ((hxb.block _ hxz2).trans HX2.out))
                have hxz4 : hx < (xq.val.setCell ⟨hx, 5, none⟩ (.int .i64 X)).heap.size := by have := hxb.size; simp; omega
                have HTGI := Lib.hid (show tgH ps time (hs i) (rs i) = ⟨(k : Int), chn, mny, dri, cha, X⟩ from by
                  rw [HG.out.1, HG.out.2]
                  unfold tgH tgT
                  dsimp only
                  rw [Int.toNat_natCast, HPP.out]
                  dsimp only
                  rw [if_neg HK3.out, HX3.out])
                have HTB := Lib.hid (fun (h : ofB n ps ⟨(k : Int), chn, mny, dri, cha, X⟩ = true) => show tgB n ps time (hs i) (rs i) = true from by
                  obtain ⟨e1, e2, e3⟩ := HPB.out
                  unfold tgB tgPre tgF
                  rw [HTGI.out, HG.out.1, HG.out.2]
                  dsimp only
                  rw [e1, e2, e3, Int.toNat_natCast, HPP.out, h]
                  simp [HK3.out])
                have HX5 := Lib.hid (show ((xq.val).setCell ⟨hx, 5, none⟩ (.int .i64 (X))).heap[hx]? = some (.cells #[.int .i64 (k : Int), .int .i64 chn, .int .i64 mny, .int .i64 dri, .int .i64 cha, .int .i64 (X)] 26) from HX4.out); clear HX4; clear HL2 HX2; generalize World.setCell _ _ _ = W3 at *; obtain ⟨l0, l1, l2, l3⟩ := HL3.out.lf; have q0 : W3.cell? ⟨hx, 0, none⟩ = some (.int .i64 (k : Int)) := cell_of_row _ _ _ _ _ _ HX5.out; have q1 : W3.cell? ⟨hx, 1, none⟩ = some (.int .i64 chn) := cell_of_row _ _ _ _ _ _ HX5.out; have q2 : W3.cell? ⟨hx, 2, none⟩ = some (.int .i64 mny) := cell_of_row _ _ _ _ _ _ HX5.out; have q3 : W3.cell? ⟨hx, 3, none⟩ = some (.int .i64 dri) := cell_of_row _ _ _ _ _ _ HX5.out; have q4 : W3.cell? ⟨hx, 4, none⟩ = some (.int .i64 cha) := cell_of_row _ _ _ _ _ _ HX5.out; have q5 : W3.cell? ⟨hx, 5, none⟩ = some (.int .i64 (X)) := cell_of_row _ _ _ _ _ _ HX5.out; have HEQ := Lib.hid (show hC (tgL ps time hs rs (i + 1)) = hC (tgL ps time hs rs i) ++ HV.cells ⟨(k : Int), chn, mny, dri, cha, X⟩ from by rw [tgL, hC_append, hC_one, HTGI.out]); obtain ⟨i0, hi0, hz0, hz1, hz2⟩ := info_parts info_hit; cases hof : ofB n ps ⟨(k : Int), chn, mny, dri, cha, X⟩; (· go_wp2_with (first | (go_at_call 20; refine (refHit_any (some ⟨pb, poff, none⟩) n c ps ⟨(k : Int), chn, mny, dri, cha, X⟩ _ B (by omega) (HP.out.below (l3.mono hBw)) hCk).mono ?_; rintro e wy ⟨rfl, hby⟩; rw [hof]; have HL4 := Lib.hid (HL3.out.step hby); have HX6 := Lib.hid ((hby.block _ hxz4).trans HX5.out); have hz4 := hby.size; clear HL3 HX5 q0 q1 q2 q3 q4 q5 l0 l1 l2 l3 hby; obtain ⟨l0, l1, l2, l3⟩ := HL4.out.lf; have q0 : wy.cell? ⟨hx, 0, none⟩ = some (.int .i64 (k : Int)) := cell_of_row _ _ _ _ _ _ HX6.out; have q1 : wy.cell? ⟨hx, 1, none⟩ = some (.int .i64 chn) := cell_of_row _ _ _ _ _ _ HX6.out; have q2 : wy.cell? ⟨hx, 2, none⟩ = some (.int .i64 mny) := cell_of_row _ _ _ _ _ _ HX6.out; have q3 : wy.cell? ⟨hx, 3, none⟩ = some (.int .i64 dri) := cell_of_row _ _ _ _ _ _ HX6.out; have q4 : wy.cell? ⟨hx, 4, none⟩ = some (.int .i64 cha) := cell_of_row _ _ _ _ _ _ HX6.out; have q5 : wy.cell? ⟨hx, 5, none⟩ = some (.int .i64 (X)) := cell_of_row _ _ _ _ _ _ HX6.out) | (go_at_call 16; refine (lawKnown_any _).mono ?_; rintro e wy ⟨rfl, hby⟩; have hL := LF_step ⟨l0, l1, l2, l3⟩ hby; clear l0 l1 l2 l3; obtain ⟨l0, l1, l2, l3⟩ := hL; clear hby)); go_ret; exact ⟨rfl, l3⟩); (· have HTB2 := Lib.hid (HTB.out hof); have hwx : w.heap.size + 1 ≤ W3.heap.size := l1; go_wp2_with (first | (go_at_call 20; refine (refHit_any (some ⟨pb, poff, none⟩) n c ps ⟨(k : Int), chn, mny, dri, cha, X⟩ _ B (by omega) (HP.out.below (l3.mono hBw)) hCk).mono ?_; rintro e wy ⟨rfl, hby⟩; rw [hof]; have HL4 := Lib.hid (HL3.out.step hby); have HX6 := Lib.hid ((hby.block _ hxz4).trans HX5.out); have hz4 := hby.size; clear HL3 HX5 q0 q1 q2 q3 q4 q5 l0 l1 l2 l3 hby; obtain ⟨l0, l1, l2, l3⟩ := HL4.out.lf; have q0 : wy.cell? ⟨hx, 0, none⟩ = some (.int .i64 (k : Int)) := cell_of_row _ _ _ _ _ _ HX6.out; have q1 : wy.cell? ⟨hx, 1, none⟩ = some (.int .i64 chn) := cell_of_row _ _ _ _ _ _ HX6.out; have q2 : wy.cell? ⟨hx, 2, none⟩ = some (.int .i64 mny) := cell_of_row _ _ _ _ _ _ HX6.out; have q3 : wy.cell? ⟨hx, 3, none⟩ = some (.int .i64 dri) := cell_of_row _ _ _ _ _ _ HX6.out; have q4 : wy.cell? ⟨hx, 4, none⟩ = some (.int .i64 cha) := cell_of_row _ _ _ _ _ _ HX6.out; have q5 : wy.cell? ⟨hx, 5, none⟩ = some (.int .i64 (X)) := cell_of_row _ _ _ _ _ _ HX6.out) | (at_builtin; refine wpList_append_own _ rfl _ _ 65 rfl (w.heap.size + 1) 26 i0 _ 6 48 Try.underlying65 hi0 hz0 hz1 hz2 rfl (by decide) _ i _ rfl (HL4.out.own.alloc _) ⟨wy.heap.size, 0, none⟩ 1 1 (HV.cells ⟨(k : Int), chn, mny, dri, cha, X⟩) rfl rfl cells_new hv_one (by unfold maxLen; omega) (by omega) (by simp; omega) ?_; intro v' w6 hown6 hgrow6 hnil6; obtain ⟨a6, c6, rfl⟩ := own_len hown6; have HL6 := Lib.hid (TL.grow HL4.out hgrow6 hown6); clear hown6 hgrow6 hnil6)); go_roundw; (· exact ⟨i + 1, a6, c6, by omega, by go_num, rfl, Lib.hid ⟨by rw [HEQ.out]; exact HL6.out, fun j hj => by (by_cases e : j = i; subst e; exact HTB2.out; exact HTG.out j (by omega))⟩⟩); (· simp [intOf]; omega))
      · obtain rfl : i = m := by omega
        have hlt' : ¬ (i : Int) < (i : Int) := by omega
        go_wp2
        go_meet
        exact ⟨va, vc, rfl, HL⟩
  · rename_i hKK
    obtain ⟨va, vc, rfl, HTL⟩ := hcut
    refine hKK _ _ ?_
    exact PT_mid a n c ps time w B hBw HP.out oa on od os HO.out va vc m hs rs hCk hm hm0 ho _ HTL.out.1 HTL.out.2 _ _ _ _ _ _ _ _ _ _ _ _ _ _ _ _ _ _ _ _ _ _ _ _ _ _ _ _ _ _ _ _ _ _ _ _ _ _ _ _ _ _ _ _ _ _ _ _ _ _ _ _ _ _ _ _ _ _ _ _ _ _ _ _ _ _ _ _ _ _ _ _ _ _ _ _ _ _ _ _ _ _ _ _ _ _ _ _ _ _ _ _ _ _ _ _ _ _ _ _ _ _ _ _ _ _ _ _ _ _ _ _ _ _ _ _ _ _ _ _ _ _ _ _ _ _ _ _ _ _ _ _ _ _ _ _ _ _ _ _ _ _ _ _ _ _ _ _ _ _ _ _ _ _ _ _ _ _ _ _ _ _ _ _ _ _ _ _ _ _ _ _ _ _ _ _ _ _ _ _ _ _ _ _ _ _ _ _ _ _ _ _ _ _ _ _ _ _ _ _ _ _ _ _ _ _ _ _ _ _ _ _ _ _ _ _ _ _ _ _ _ _ _ _ _ _ _ _ _ _ _ _ _ _ _ _ _ _ _ _ _ _ _ _ _ _ _ _ _ _ _ _ _ _ _ _ _ _ _ _ _ _ _ _ _ _ _ _ _ _ _ _ _ _ _ _ _ _ _ _ _ _ _ _ _ _ _ _ _ _ _ _ _ _ _ _ _ _ _ _ _ _ _
end Go.Proofs.Ytgcepjminlapiaa
namespace Go.Proofs.Ytgcepjminlapiaa
open Go.RowKit
set_option linter.unusedVariables false
set_option linter.unusedSimpArgs false
theorem PlaneTogether_any (a : Option Addr) (n c : Nat) (ps : Nat → PR) (time : Int) (ha : Option Addr) (m d : Nat) (hs : Nat → HV) (ra : Option Addr) (rn rd : Nat) (rs : Nat → SV) (oa : Option Addr) (on od : Nat) (os : Nat → HV) (w : World) (B : Nat) (hBw : B ≤ w.heap.size) (hP : Planes B w a n ps) (wi : (Lit.int .i64 time).wf = true) (hH : Hits B w ha m hs) (hR : Spans B w ra rn rs) (hO : Hits B w oa on os) :
    Calls Try.prog 14 #[setupV a n c, .int .i64 time, .slice ha m d, .slice ra rn rd, .slice oa on od] w fun e w' => e = .returned (.bool true) ∧ Below w.heap.size w w' := by
  by_cases hU : smallB n ps = false ∨ checkB n ps = false ∨ withinB time (-1000000000) 1000000000 = false ∨ 10 < m ∨ m = 0 ∨ rn ≠ m ∨ 10 < on
  · exact PT_out a n c ps time ha m d ra rn rd oa on od w B hBw hP hH.1 hR.1 hO.1 hU
  · simp only [not_or, Bool.not_eq_false, Nat.not_lt] at hU
    obtain ⟨h1, h2, h3, h4, h5, h6, h7⟩ := hU
    obtain rfl : rn = m := by false_or_by_contra; exact h6 ‹_›
    exact PT_in a n c ps time ha rn d hs ra rd rs oa on od os w B hBw hP hH hR hO h1 h2 h3 h4 h5 h7
end Go.Proofs.Ytgcepjminlapiaa
