/- The walk of image.Sum. -/
import Derived.Test.YtollfpnfnciekaaDoorImSumF
namespace Go.Proofs.YtollfpnfnciekaaDoor
open Go.RowKit Go.Shelf
set_option linter.unusedVariables false
set_option linter.unusedSimpArgs false
attribute [local go_sem] Oper.semAt_some
/-- what Sum hands back -/
def SumRes (n : Nat) (ss : Nat → SV) (m : Nat) (bs : Nat → BM) (k : Nat) (cs : Nat → Int) (w : World) (e : Ending) (w' : World) : Prop :=
  Below w.heap.size w w' ∧
  (if checkF n ss m bs (setB n k cs) = 0 then if allF n ss m bs = [] then e = .returned (.tuple #[.agg #[.int .i64 0, .int .i64 0], .int .i64 5])
    else e = .returned (.tuple #[.agg #[.int .i64 (bnd (fun f => sumL cs k (fOf f)) (allF n ss m bs)).lo, .int .i64 (bnd (fun f => sumL cs k (fOf f)) (allF n ss m bs)).hi], .int .i64 0])
  else e = .returned (.tuple #[.agg #[.int .i64 0, .int .i64 0], .int .i64 (checkF n ss m bs (setB n k cs))]))
/-- the image, the set and the result in boxes -/
structure SB (a : Option Addr) (n c : Nat) (ba : Option Addr) (m bc : Nat) (ca : Option Addr) (k cc : Nat) (w : World) (W : World) : Prop where
  li : LI a n c ba m bc w W
  cells : W.heap[w.heap.size + 1]? = some (.cells #[.slice ca k cc] 26)
  res : W.heap[w.heap.size + 1 + 1]? = some (.cells #[.int .i64 0, .int .i64 0] 41)
theorem SB.step {a : Option Addr} {n c : Nat} {ba : Option Addr} {m bc : Nat} {ca : Option Addr} {k cc : Nat} {w W W' : World} (h : SB a n c ba m bc ca k cc w W) (hb : Below W.heap.size W W') : SB a n c ba m bc ca k cc w W' :=
  ⟨LI_step h.li hb, (hb.block _ (Array.getElem?_eq_some_iff.1 h.cells).1).trans h.cells, (hb.block _ (Array.getElem?_eq_some_iff.1 h.res).1).trans h.res⟩
theorem SB.size {a : Option Addr} {n c : Nat} {ba : Option Addr} {m bc : Nat} {ca : Option Addr} {k cc : Nat} {w W : World} (h : SB a n c ba m bc ca k cc w W) : w.heap.size + 1 + 1 < W.heap.size := (Array.getElem?_eq_some_iff.1 h.res).1
theorem SB.start {a : Option Addr} {n c : Nat} {ba : Option Addr} {m bc : Nat} {ca : Option Addr} {k cc : Nat} {w : World} : SB a n c ba m bc ca k cc w (((w.alloc (.cells #[.slice a n c, .slice ba m bc] 25)).alloc (.cells #[.slice ca k cc] 26)).alloc (.cells #[.int .i64 0, .int .i64 0] 41)) := by
  obtain ⟨h1, h2, h3, h4, h5⟩ := three_allocs w (.cells #[.slice a n c, .slice ba m bc] 25) (.cells #[.slice ca k cc] 26) (.cells #[.int .i64 0, .int .i64 0] 41)
  exact ⟨⟨(cell_of_row _ _ 0 _ _ _ h3).trans rfl, (cell_of_row _ _ 1 _ _ _ h3).trans rfl, by omega, h1⟩, h4, h5⟩
set_option maxRecDepth 100000 in
set_option maxHeartbeats 2000000 in
theorem Sum_bad (a : Option Addr) (n c : Nat) (ba : Option Addr) (m bc : Nat) (ss : Nat → SV) (bs : Nat → BM) (ca : Option Addr) (k cc : Nat) (cs : Nat → Int) (w : World) (B : Nat) (hBw : B ≤ w.heap.size) (hS : Spans B w a n ss) (hM : Beams B w ba m bs) (hC : Ints w.heap.size w ca k cs) (hk : k ≤ maxLen) (hE0 : checkF n ss m bs (setB n k cs) ≠ 0) :
    Calls Tryd.prog 32 #[imageV a n c ba m bc, .slice ca k cc] w (SumRes n ss m bs k cs w) := by
  have hn := hS.1
  have HSE0 := Lib.hid (fun (W : World) (hb : Below w.heap.size w W) => set_any a n c ba m bc ca k cc cs W W.heap.size (Nat.le_refl _) hn hk ((hC.below hb).up hb.size))
  have HCV0 := Lib.hid (fun (W : World) (hb : Below w.heap.size w W) => checked_any a n c ba m bc ss bs (setB n k cs) W B (Nat.le_trans hBw hb.size) (hS.below (hb.mono hBw)) (hM.below (hb.mono hBw)))
  have HR := Lib.hid (fun (W : World) (hb : Below w.heap.size w W) => show SumRes n ss m bs k cs w (.returned (.tuple #[.agg #[.int .i64 0, .int .i64 0], .int .i64 (checkF n ss m bs (setB n k cs))])) W from ⟨hb, by rw [if_neg hE0]⟩)
  generalize SumRes n ss m bs k cs w = RES at *
  have hne : (checkF n ss m bs (setB n k cs) == 0) = false := by rw [beq_eq_false_iff_ne]; exact hE0
  clear hS hM hC hE0
  generalize checkF n ss m bs (setB n k cs) = E at *
  have hne2 : (E != 0) = true := by rw [bne, hne]; rfl
  generalize setB n k cs = SE at *
  go_enter Tryd.func32, Tryd.ntmps32
  go_upto_region 1 with (fail)
  have HB := Lib.hid (show SB a n c ba m bc ca k cc w (((w.alloc (.cells #[.slice a n c, .slice ba m bc] 25)).alloc (.cells #[.slice ca k cc] 26)).alloc (.cells #[.int .i64 0, .int .i64 0] 41)) from SB.start)
  generalize World.alloc (World.alloc (World.alloc w _) _) _ = V at *
  obtain ⟨l0, l1, l2, l3⟩ := HB.out.li
  have b0 := (cell_of_row _ _ 0 _ _ _ HB.out.cells).trans (show _ = some (Value.slice ca k cc) from rfl)
  have b1 := (Array.getElem?_eq_some_iff.1 HB.out.cells).1
  have HSE := Lib.hid (fun (W : World) (hb : Below V.heap.size V W) => HSE0.out W (l3.trans (hb.mono l3.size)))
  have HCV := Lib.hid (fun (W : World) (hb : Below V.heap.size V W) => HCV0.out W (l3.trans (hb.mono l3.size)))
  clear HSE0 HCV0
  (refine wp_region_calm (V.heap.size) (by kernel_rfl) (by kernel_rfl) ?_; (repeat (first | go_big_quiet_step ((first | (go_at_call 61; exact Calls.calm_of (Nat.le_refl _) (HSE.out _ (Calm.below _))) | (go_at_call 49; exact Calls.calm_of (Nat.le_refl _) (HCV.out _ (Calm.below _))))) | quiet_step ((first | (go_at_call 61; exact Calls.calm_of (Nat.le_refl _) (HSE.out _ (Calm.below _))) | (go_at_call 49; exact Calls.calm_of (Nat.le_refl _) (HCV.out _ (Calm.below _))))))); refine wpQuiet_nil ?_; intro _ hw'; obtain ⟨xq, hw''⟩ := hw'; subst hw'')
  have HB1 := Lib.hid (HB.out.step (Calm.below xq))
  clear HB l0 l1 l2 l3 b0 b1 HSE HCV
  generalize Calm.val xq = V1 at *
  have c0 := (cell_of_row _ _ 0 _ _ _ HB1.out.res).trans (show _ = some (Value.int .i64 0) from rfl)
  have c1 := (cell_of_row _ _ 1 _ _ _ HB1.out.res).trans (show _ = some (Value.int .i64 0) from rfl)
  have f0 := frozen_of_row _ _ 0 _ _ HB1.out.res
  have f1 := frozen_of_row _ _ 1 _ _ HB1.out.res
  have l3 := HB1.out.li.2.2.2
  have hz := HB1.out.size
  go_wp2
  have r2 : ((V1.setCell ⟨w.heap.size + 1 + 1, 0, none⟩ (.int .i64 0)).setCell ⟨w.heap.size + 1 + 1, 1, none⟩ (.int .i64 0)).heap[w.heap.size + 1 + 1]? = some (.cells #[.int .i64 0, .int .i64 0] 41) := heap_setCell_same _ _ 1 _ _ _ (heap_setCell_same V1 _ 0 _ _ _ HB1.out.res)
  have hbl := (l3.setCell (p := ⟨w.heap.size + 1 + 1, 0, none⟩) (by show w.heap.size ≤ w.heap.size + 1 + 1; omega) (.int .i64 0)).setCell (p := ⟨w.heap.size + 1 + 1, 1, none⟩) (by show w.heap.size ≤ w.heap.size + 1 + 1; omega) (.int .i64 0)
  clear c0 c1 f0 f1 l3 hz HB1
  generalize World.setCell (World.setCell V1 _ _) _ _ = W2 at *
  have d0 := (cell_of_row _ _ 0 _ _ _ r2).trans (show _ = some (Value.int .i64 0) from rfl)
  have d1 := (cell_of_row _ _ 1 _ _ _ r2).trans (show _ = some (Value.int .i64 0) from rfl)
  exact bodyPost_ret (v := .tuple #[.agg #[.int .i64 0, .int .i64 0], .int .i64 E]) (by simp [results, Tryd.results32, go_sem, d0, d1]) rfl (HR.out _ hbl)
set_option maxRecDepth 100000 in
set_option maxHeartbeats 2000000 in
theorem Sum_ok (a : Option Addr) (n c : Nat) (ba : Option Addr) (m bc : Nat) (ss : Nat → SV) (bs : Nat → BM) (ca : Option Addr) (k cc : Nat) (cs : Nat → Int) (w : World) (B : Nat) (hBw : B ≤ w.heap.size) (hS : Spans B w a n ss) (hM : Beams B w ba m bs) (hC : Ints w.heap.size w ca k cs) (hk : k ≤ maxLen) (hE0 : checkF n ss m bs (setB n k cs) = 0) :
    Calls Tryd.prog 32 #[imageV a n c ba m bc, .slice ca k cc] w (SumRes n ss m bs k cs w) := by
  have hn := hS.1
  have HSE0 := Lib.hid (fun (W : World) (hb : Below w.heap.size w W) => set_any a n c ba m bc ca k cc cs W W.heap.size (Nat.le_refl _) hn hk ((hC.below hb).up hb.size))
  have HCV0 := Lib.hid (fun (W : World) (hb : Below w.heap.size w W) => checked_any a n c ba m bc ss bs (setB n k cs) W B (Nat.le_trans hBw hb.size) (hS.below (hb.mono hBw)) (hM.below (hb.mono hBw)))
  obtain ⟨hset, hck⟩ : setB n k cs = true ∧ checkN n ss m bs = 0 := by
    cases e : setB n k cs
    · rw [e] at hE0; unfold checkF at hE0; rw [if_pos (.inr rfl)] at hE0; cases hE0
    · rw [e, checkF_true] at hE0; exact ⟨rfl, hE0⟩
  have HSh := Lib.hid (checkN_shape hck)
  have hn40 := (checkN_shape hck).n40
  have HSET := Lib.hid hset
  have HR1 := Lib.hid (fun (w' : World) (hb : Below w.heap.size w w') (he : allF n ss m bs = []) => show SumRes n ss m bs k cs w (.returned (.tuple #[.agg #[.int .i64 0, .int .i64 0], .int .i64 5])) w' from ⟨hb, by rw [if_pos hE0, if_pos he]⟩)
  have HR2 := Lib.hid (fun (w' : World) (hb : Below w.heap.size w w') (he : allF n ss m bs ≠ []) => show SumRes n ss m bs k cs w (.returned (.tuple #[.agg #[.int .i64 (bnd (fun f => sumL cs k (fOf f)) (allF n ss m bs)).lo, .int .i64 (bnd (fun f => sumL cs k (fOf f)) (allF n ss m bs)).hi], .int .i64 0])) w' from ⟨hb, by rw [if_pos hE0, if_neg he]⟩)
  have hmk := make_spans 1 (by omega)
  simp only [show ((1 : Nat) : Int) = 1 from rfl] at hmk
  have HS := Lib.hid hS
  have HM := Lib.hid hM
  have HCI := Lib.hid hC
  rw [hE0] at HCV0
  generalize SumRes n ss m bs k cs w = RES at *
  generalize hse : setB n k cs = SE at *
  have HSE2 := Lib.hid hse
  clear hS hM hC hE0 hset hck hse
  refine (callsIn_wide (n := 6)).1 ?_; refine callsIn_of_wp_marks Tryd.func32 rfl trivial ?_ rfl; simp only [Tryd.ntmps32, List.size_toArray, List.length_cons, List.length_nil, Nat.reduceAdd, Nat.reduceSub, Array.replicate_succ, Array.replicate_zero, List.push_toArray, List.append_toArray, List.nil_append, List.cons_append]; refine wpIn_wide.2 ?_
  go_upto_region 1 with (fail)
  have HB := Lib.hid (show SB a n c ba m bc ca k cc w (((w.alloc (.cells #[.slice a n c, .slice ba m bc] 25)).alloc (.cells #[.slice ca k cc] 26)).alloc (.cells #[.int .i64 0, .int .i64 0] 41)) from SB.start)
  generalize World.alloc (World.alloc (World.alloc w _) _) _ = V at *
  obtain ⟨l0, l1, l2, l3⟩ := HB.out.li
  have b0 := (cell_of_row _ _ 0 _ _ _ HB.out.cells).trans (show _ = some (Value.slice ca k cc) from rfl)
  have b1 := (Array.getElem?_eq_some_iff.1 HB.out.cells).1
  have HSE := Lib.hid (fun (W : World) (hb : Below V.heap.size V W) => HSE0.out W (l3.trans (hb.mono l3.size)))
  have HCV := Lib.hid (fun (W : World) (hb : Below V.heap.size V W) => HCV0.out W (l3.trans (hb.mono l3.size)))
  clear HSE0 HCV0
  (refine wp_region_calm (V.heap.size) (by kernel_rfl) (by kernel_rfl) ?_; (repeat (first | go_big_quiet_step ((first | (go_at_call 61; exact Calls.calm_of (Nat.le_refl _) (HSE.out _ (Calm.below _))) | (go_at_call 49; exact Calls.calm_of (Nat.le_refl _) (HCV.out _ (Calm.below _))))) | quiet_step ((first | (go_at_call 61; exact Calls.calm_of (Nat.le_refl _) (HSE.out _ (Calm.below _))) | (go_at_call 49; exact Calls.calm_of (Nat.le_refl _) (HCV.out _ (Calm.below _))))))); refine wpQuiet_nil ?_; intro _ hw'; obtain ⟨xq, hw''⟩ := hw'; subst hw'')
  have HB1 := Lib.hid (HB.out.step (Calm.below xq))
  clear HB l0 l1 l2 l3 b0 b1 HSE HCV
  generalize Calm.val xq = w1 at *
  obtain ⟨l0, l1, l2, l3⟩ := HB1.out.li
  have hz1 := HB1.out.size
  go_upto_region 6 with (fail)
  obtain ⟨hVb, hVz, e1, e2, e3⟩ := three_allocs w1 (.cells (madeCells #[.int .i64 0, .int .i64 0] 2) 41) (.cells #[.slice (some ⟨w1.heap.size, 0, none⟩) 1 1] 22) (.cells #[.bool false] 4)
  have hM0 := SR.made w1 41 1
  have HSR0 := Lib.hid (show SR 41 (((w1.alloc (.cells (madeCells #[.int .i64 0, .int .i64 0] 2) 41)).alloc (.cells #[.slice (some ⟨w1.heap.size, 0, none⟩) 1 1] 22)).alloc (.cells #[.bool false] 4)) w1.heap.size 1 (fun _ => ⟨0, 0⟩) from (hM0.alloc _).alloc _)
  clear hM0
  have HB2' := Lib.hid (HB1.out.step hVb)
  generalize World.alloc (World.alloc (World.alloc w1 _) _) _ = V1 at *
  generalize w1.heap.size = ob at *
  have HE := Lib.hid (And.intro e2 e3)
  clear e1 e2 e3 l0 l1 l2 l3 hVb hmk HB1
  have HLI2 := Lib.hid HB2'.out.li
  obtain ⟨k0, k1, k4, k5⟩ := HLI2.out
  go_wp2_with (first | (go_at_call 43; refine (look_any a n c ba m bc ss bs _ B (by have := HLI2.out.2.2.1; omega) (HS.out.below (HLI2.out.2.2.2.mono hBw)) (HM.out.below (HLI2.out.2.2.2.mono hBw)) HSh.out).mono ?_; intro e w2 hlook; obtain ⟨rfl, hb2, hz2, hSr⟩ := look_fields (t := 81) hlook (HS.out.below (HLI2.out.2.2.2.mono hBw)) (HM.out.below (HLI2.out.2.2.2.mono hBw)) (by have := HLI2.out.2.2.1; omega); have HSR := Lib.hid hSr; have HB2 := Lib.hid hb2; clear hlook hSr hb2) | (go_at_call 44; refine (fields_any _ _).mono ?_; rintro e w' ⟨rfl, rfl⟩))
  clear k0 k1
  have hz2' := HB2.out.size
  have hW3 := alloc_below w2 (.cells #[.pointer (some ⟨ob + 1 + 1 + 1 + 1, 0, none⟩)] 81)
  have hN2 := (hW3.block (ob + 1) (by omega)).trans ((HB2.out.block (ob + 1) (by omega)).trans HE.out.1)
  have hN3 := (hW3.block (ob + 1 + 1) (by omega)).trans ((HB2.out.block (ob + 1 + 1) (by omega)).trans HE.out.2)
  have hN4 := (hW3.block (w.heap.size + 1) (by omega)).trans ((HB2.out.block (w.heap.size + 1) (by omega)).trans HB2'.out.cells)
  have hN5 := (hW3.block (w.heap.size + 1 + 1) (by omega)).trans ((HB2.out.block (w.heap.size + 1 + 1) (by omega)).trans HB2'.out.res)
  have hb3 : Below w.heap.size w (w2.alloc (.cells #[.pointer (some ⟨ob + 1 + 1 + 1 + 1, 0, none⟩)] 81)) := (k5.trans (HB2.out.mono (by omega))).trans (hW3.mono (by omega))
  have hSR := HSR.out
  have hS0 := (HSR0.out.step HB2.out).step hW3
  rw [hVz] at hSR
  refine wp_fields (Rk B (ob + 1 + 1 + 1) (w2.heap.size + 1)) n ss m bs (ob + 1 + 1 + 1 + 1) w2.heap.size HSh.out hSR (fun b hb => by simp; rcases hb with h | h <;> omega) (.inr ⟨by omega, by omega⟩) (cell_of_row _ _ _ _ _ _ (heap_alloc_new w2 _)) w hb3 rfl rfl
    (fun b => b = ob ∨ b = ob + 1 ∨ b = ob + 1 + 1 ∨ b = w.heap.size + 1 ∨ b = w.heap.size + 1 + 1) ?hX0
    (fun X xs W => (X ob ∧ X (ob + 1) ∧ X (ob + 1 + 1) ∧ X (w.heap.size + 1) ∧ X (w.heap.size + 1 + 1)) ∧ SR 41 W ob 1 (fun _ => bnd (fun f => sumL cs k (fOf f)) (xs.map FX.f)) ∧ W.heap[ob + 1]? = some (.cells #[.slice (some ⟨ob, 0, none⟩) 1 1] 22) ∧ W.heap[ob + 1 + 1]? = some (.cells #[.bool (!(xs.map FX.f).isEmpty)] 4) ∧ W.heap[w.heap.size + 1]? = some (.cells #[.slice ca k cc] 26) ∧ W.heap[w.heap.size + 1 + 1]? = some (.cells #[.int .i64 0, .int .i64 0] 41)) (fun cd X xs W => False)
    ?hT (fun _ _ _ _ _ h _ => h) ?h0 (fun x => ⟨#[imageV a n c ba m bc, .slice ca k cc, .pointer (some ⟨w.heap.size, 0, none⟩), .pointer (some ⟨w.heap.size + 1, 0, none⟩), .pointer (some ⟨w.heap.size + 1 + 1, 0, none⟩), .int .i64 0, .int .i64 0, .pointer (some ⟨ob + 1, 0, none⟩), .pointer (some ⟨ob + 1 + 1, 0, none⟩), .slice x.fa n n, .agg #[.slice a n c, .slice ba m bc], .agg #[.slice a n c, .slice ba m bc], .slice ca k cc, .bool SE, .int .i64 0, .int .i64 0, .bool false, undef, undef, .slice (some ⟨ob, 0, none⟩) 1 1, .agg #[.slice a n c, .slice ba m bc], .pointer (some ⟨ob + 1 + 1 + 1 + 1, 0, none⟩), .func (.func 74) #[] #[.pointer (some ⟨w2.heap.size, 0, none⟩)], .slice x.fa n n, .slice x.sa m m, undef, undef, undef, undef, undef, undef, undef, undef, undef, undef, undef], []⟩) ?hassign ?hbody ?hdone ?hstop
  case hX0 =>
    obtain ⟨cur, hcur, _, _⟩ := hS0
    rintro b (rfl | rfl | rfl | rfl | rfl)
    · exact ⟨by omega, fun h => by rcases h with h | h <;> omega, _, hcur, rfl⟩
    · exact ⟨by omega, fun h => by rcases h with h | h <;> omega, _, hN2, rfl⟩
    · exact ⟨by omega, fun h => by rcases h with h | h <;> omega, _, hN3, rfl⟩
    · exact ⟨by omega, fun h => by rcases h with h | h <;> omega, _, hN4, rfl⟩
    · exact ⟨by omega, fun h => by rcases h with h | h <;> omega, _, hN5, rfl⟩
  case hT =>
    rintro X xs W W' ⟨⟨h1, h2, h3, h4, h5⟩, h6, h7, h8, h9, h10⟩ hk
    exact ⟨⟨h1, h2, h3, h4, h5⟩, h6.block (hk _ h1), (hk _ h2).trans h7, (hk _ h3).trans h8, (hk _ h4).trans h9, (hk _ h5).trans h10⟩
  case h0 => exact ⟨⟨.inl rfl, .inr (.inl rfl), .inr (.inr (.inl rfl)), .inr (.inr (.inr (.inl rfl))), .inr (.inr (.inr (.inr rfl)))⟩, hS0, hN2, hN3, hN4, hN5⟩
  case hassign =>
    intro l x W K hK
    gi_wp2
    exact hK
  case hbody =>
    rintro l pre x O X W hsz hm ⟨⟨hx1, hx2, hx3, hx4, hx5⟩, ts, t1, t2, t3, t4⟩ hsh hbel hrest
    have c1 : W.cell? ⟨ob + 1, 0, none⟩ = some (.slice (some ⟨ob, 0, none⟩) 1 1) := cell_of_row _ _ _ _ _ _ t1
    have c2 : W.cell? ⟨ob + 1 + 1, 0, none⟩ = some (.bool (!(pre.map FX.f).isEmpty)) := cell_of_row _ _ _ _ _ _ t2
    obtain ⟨fb, hfa, hfo, hfz, hfc⟩ := hsh.field
    have hfne : fb ≠ ob := fun e => hm.off ob hx1 (by rw [← e]; exact hfo)
    have hden : ∀ c, c < n → 0 ≤ fOf x.f c ∧ fOf x.f c ≤ 1000 := fun c hc => by
      have h1 := hsh.ins c (by rw [hsh.len]; exact hc)
      have h2 := HSh.out.span c hc
      omega
    have HCL := Lib.hid (widenS_any (w.heap.size + 1) ob 1 1 (fun _ => bnd (fun f => sumL cs k (fOf f)) (pre.map FX.f)) (!(pre.map FX.f).isEmpty) x.fa n n (fun _ => sumL cs k (fOf x.f)) (by omega) W ts (fun i hi W' hg => (sumF_any x.fa n n (fOf x.f) (i : Int) (w.heap.size + 1) ca k cc cs hn40 (HSE2.out.trans HSET.out) hden W' (.inr ⟨fb, 0, hfa, by have := hg.size; omega, fun j hj => by
      rw [Nat.zero_add]
      exact (World.cell?_of_block (hg.block fb hfz (fun e => hfne (by injection e)))).trans (hfc j hj)⟩)
      ((World.cell?_of_block (hg.block (w.heap.size + 1) (hm.lt hx4) (fun e => by injection e with e; omega))).trans ((cell_of_row _ _ 0 _ _ _ t3).trans (show _ = some (Value.slice ca k cc) from rfl)))
      ((HCI.out.below (hbel.grown hg hbel.size (fun q e => by injection e with e; omega))).up (Nat.le_trans hbel.size hg.size))).mono (fun e W'' h => ⟨h.1, by rw [h.2]; exact Below.refl _ _⟩)))
    have HTT := Lib.hid (And.intro t1 (And.intro t2 (And.intro t3 t4)))
    have HMM := Lib.hid hm
    have hob : ob < W.heap.size := hm.lt hx1
    have hob1 : ob + 1 < W.heap.size := hm.lt hx2
    have hob2 : ob + 1 + 1 < W.heap.size := hm.lt hx3
    have hob3 : w.heap.size + 1 < W.heap.size := hm.lt hx4
    have hob4 : w.heap.size + 1 + 1 < W.heap.size := hm.lt hx5
    clear hfa hfo hfz hfc t1 t2 t3 t4 hm hsh ts hfne hden
    have HKN := Lib.hid (show (fun (i : Nat) => widS (!(pre.map FX.f).isEmpty) (bnd (fun f => sumL cs k (fOf f)) (pre.map FX.f)) (sumL cs k (fOf x.f))) = (fun (i : Nat) => bnd (fun f => sumL cs k (fOf f)) ((pre ++ [x]).map FX.f)) from by
      funext i
      rw [List.map_append, List.map_singleton]
      exact wid_bnd (fun f => sumL cs k (fOf f)) _ _)
    have HKE := Lib.hid (show (!((pre ++ [x]).map FX.f).isEmpty) = true from by simp)
    rw [HKN.out] at HCL
    generalize (!(pre.map FX.f).isEmpty) = kn at *
    gi_wp2_with (fail)
    refine ⟨trivial, CallsIn.inRound l ((callsIn_wide.2 HCL.out).mono ?_)⟩
    rintro e W4 ⟨rfl, hg4, hs4⟩
    have q1 := (hg4.block (ob + 1) hob1 (by simp)).trans HTT.out.1
    have q2 := (hg4.block (ob + 1 + 1) hob2 (by simp; omega)).trans HTT.out.2.1
    have q3 := (hg4.block (w.heap.size + 1) hob3 (by simp; omega)).trans HTT.out.2.2.1
    have q4 := (hg4.block (w.heap.size + 1 + 1) hob4 (by simp; omega)).trans HTT.out.2.2.2
    have d2 : W4.cell? ⟨ob + 1 + 1, 0, none⟩ = some (.bool kn) := cell_of_row _ _ _ _ _ _ q2
    have f2 : W4.frozen? ⟨ob + 1 + 1, 0, none⟩ = false := frozen_of_row _ _ _ _ _ q2
    have HTX := Lib.hid (show ∃ X', BodyStep X W (W4.setCell ⟨ob + 1 + 1, 0, none⟩ (.bool true)) X' ∧ (X' ob ∧ X' (ob + 1) ∧ X' (ob + 1 + 1) ∧ X' (w.heap.size + 1) ∧ X' (w.heap.size + 1 + 1)) ∧ SR 41 (W4.setCell ⟨ob + 1 + 1, 0, none⟩ (.bool true)) ob 1 (fun _ => bnd (fun f => sumL cs k (fOf f)) ((pre ++ [x]).map FX.f)) ∧ (W4.setCell ⟨ob + 1 + 1, 0, none⟩ (.bool true)).heap[ob + 1]? = some (.cells #[.slice (some ⟨ob, 0, none⟩) 1 1] 22) ∧ (W4.setCell ⟨ob + 1 + 1, 0, none⟩ (.bool true)).heap[ob + 1 + 1]? = some (.cells #[.bool (!((pre ++ [x]).map FX.f).isEmpty)] 4) ∧ (W4.setCell ⟨ob + 1 + 1, 0, none⟩ (.bool true)).heap[w.heap.size + 1]? = some (.cells #[.slice ca k cc] 26) ∧ (W4.setCell ⟨ob + 1 + 1, 0, none⟩ (.bool true)).heap[w.heap.size + 1 + 1]? = some (.cells #[.int .i64 0, .int .i64 0] 41) from by
      obtain ⟨cur, hcur, _, _⟩ := id hs4
      refine ⟨X, (BodyStep.grown HMM.out hg4 hx1 hcur rfl).setCell hx3 _, ⟨hx1, hx2, hx3, hx4, hx5⟩, hs4.other (by omega) _, (heap_setCell_other W4 ⟨ob + 1 + 1, 0, none⟩ (ob + 1) _ (by show ob + 1 ≠ ob + 1 + 1; omega)).trans q1, ?_, (heap_setCell_other W4 ⟨ob + 1 + 1, 0, none⟩ (w.heap.size + 1) _ (by show w.heap.size + 1 ≠ ob + 1 + 1; omega)).trans q3, (heap_setCell_other W4 ⟨ob + 1 + 1, 0, none⟩ (w.heap.size + 1 + 1) _ (by show w.heap.size + 1 + 1 ≠ ob + 1 + 1; omega)).trans q4⟩
      rw [HKE.out]
      exact heap_setCell_same W4 _ 0 _ _ _ q2)
    clear q1 q2 q3 q4 hg4 hs4 HTT HCL HKN HKE c1 c2
    dsimp only
    gi_wp2
    exact HTX.out
  case hdone =>
    rintro D xs X W hD hDl hDX hxs ⟨⟨hx1, hx2, hx3, hx4, hx5⟩, ts, t1, t2, t3, t4⟩ hbel hDD
    rw [hxs] at ts t2
    have c1 : W.cell? ⟨ob + 1, 0, none⟩ = some (.slice (some ⟨ob, 0, none⟩) 1 1) := cell_of_row _ _ _ _ _ _ t1
    have hD5 : w.heap.size + 1 + 1 ≠ D := fun e => hDX (by rw [← e]; exact hx5)
    have hDw : w.heap.size ≤ D := Nat.le_trans hb3.size hD
    have g0 := (cell_of_row _ _ 0 _ _ _ t4).trans (show _ = some (Value.int .i64 0) from rfl)
    have g1 := (cell_of_row _ _ 1 _ _ _ t4).trans (show _ = some (Value.int .i64 0) from rfl)
    have g2 := frozen_of_row _ _ 0 _ _ t4
    have g3 := frozen_of_row _ _ 1 _ _ t4
    have HT4 := Lib.hid t4
    have HST := Lib.hid (fun (x y : Int) => show ((W.setCell ⟨w.heap.size + 1 + 1, 0, none⟩ (.int .i64 x)).setCell ⟨w.heap.size + 1 + 1, 1, none⟩ (.int .i64 y)).heap[w.heap.size + 1 + 1]? = some (.cells #[.int .i64 x, .int .i64 y] 41) from heap_setCell_same _ _ 1 _ _ _ (heap_setCell_same W _ 0 _ _ _ HT4.out))
    have HSD := Lib.hid (fun (x y : Int) => show ((W.setCell ⟨w.heap.size + 1 + 1, 0, none⟩ (.int .i64 x)).setCell ⟨w.heap.size + 1 + 1, 1, none⟩ (.int .i64 y)).heap[D]? = some (.deferred (some [])) from ((heap_setCell_other _ ⟨w.heap.size + 1 + 1, 1, none⟩ D _ (Ne.symm hD5)).trans (heap_setCell_other W ⟨w.heap.size + 1 + 1, 0, none⟩ D _ (Ne.symm hD5))).trans hDD)
    have HSB := Lib.hid (fun (x y : Int) => (hbel.setCell (p := ⟨w.heap.size + 1 + 1, 0, none⟩) (by show w.heap.size ≤ w.heap.size + 1 + 1; omega) (.int .i64 x)).setCell (p := ⟨w.heap.size + 1 + 1, 1, none⟩) (by show w.heap.size ≤ w.heap.size + 1 + 1; omega) (.int .i64 y))
    by_cases he : allF n ss m bs = []
    · have c2 : W.cell? ⟨ob + 1 + 1, 0, none⟩ = some (.bool false) := by rw [he] at t2; exact cell_of_row _ _ _ _ _ _ t2
      have HRR := Lib.hid (fun (W2 : World) (hb : Below w.heap.size w W2) o' => HR1.out (W2.putObj D o') (below_put hb hDw o') he)
      have HS1 := Lib.hid (HST.out 0 0)
      have HS2 := Lib.hid (HSD.out 0 0)
      have HS3 := Lib.hid (HSB.out 0 0)
      clear hxs t1 t2 t3 t4 ts hDD hbel he HT4 HST HSD HSB
      go_wp2
      generalize World.setCell (World.setCell W _ _) _ _ = W2 at *
      have d0 := fun o' => (World.cell?_of_block (World.putObj_heap_other (w := W2) (o := o') hD5)).trans ((cell_of_row _ _ 0 _ _ _ HS1.out).trans (show _ = some (Value.int .i64 0) from rfl))
      have d1 := fun o' => (World.cell?_of_block (World.putObj_heap_other (w := W2) (o := o') hD5)).trans ((cell_of_row _ _ 1 _ _ _ HS1.out).trans (show _ = some (Value.int .i64 0) from rfl))
      exact leave_marked (v := .tuple #[.agg #[.int .i64 0, .int .i64 0], .int .i64 5]) HS2.out (fun o' => ⟨by simp [results, Tryd.results32, go_sem, d0 o', d1 o'], HRR.out W2 HS3.out o'⟩)
    · have c2 : W.cell? ⟨ob + 1 + 1, 0, none⟩ = some (.bool true) := by
        rw [show (!(allF n ss m bs).isEmpty) = true by cases e : allF n ss m bs; exact absurd e he; rfl] at t2
        exact cell_of_row _ _ _ _ _ _ t2
      obtain ⟨s0, s1⟩ := ts.cell (j := 0) (by omega)
      have HRR := Lib.hid (fun (W2 : World) (hb : Below w.heap.size w W2) o' => HR2.out (W2.putObj D o') (below_put hb hDw o') he)
      rw [Nat.zero_mul] at s0 s1
      generalize bnd (fun f => sumL cs k (fOf f)) (allF n ss m bs) = S at *
      have HS1 := Lib.hid (HST.out S.lo S.hi)
      have HS2 := Lib.hid (HSD.out S.lo S.hi)
      have HS3 := Lib.hid (HSB.out S.lo S.hi)
      clear hxs t1 t2 t3 t4 ts hDD hbel he HT4 HST HSD HSB
      go_wp2
      generalize World.setCell (World.setCell W _ _) _ _ = W2 at *
      have d0 := fun o' => (World.cell?_of_block (World.putObj_heap_other (w := W2) (o := o') hD5)).trans ((cell_of_row _ _ 0 _ _ _ HS1.out).trans (show _ = some (Value.int .i64 S.lo) from rfl))
      have d1 := fun o' => (World.cell?_of_block (World.putObj_heap_other (w := W2) (o := o') hD5)).trans ((cell_of_row _ _ 1 _ _ _ HS1.out).trans (show _ = some (Value.int .i64 S.hi) from rfl))
      exact leave_marked (v := .tuple #[.agg #[.int .i64 S.lo, .int .i64 S.hi], .int .i64 0]) HS2.out (fun o' => ⟨by simp [results, Tryd.results32, go_sem, d0 o', d1 o'], HRR.out W2 HS3.out o'⟩)
  case hstop =>
    rintro D cd pre X W hD hDl hDX hk h
    exact h.elim
theorem Sum_any (a : Option Addr) (n c : Nat) (ba : Option Addr) (m bc : Nat) (ss : Nat → SV) (bs : Nat → BM) (ca : Option Addr) (k cc : Nat) (cs : Nat → Int) (w : World) (B : Nat) (hBw : B ≤ w.heap.size) (hS : Spans B w a n ss) (hM : Beams B w ba m bs) (hC : Ints w.heap.size w ca k cs) (hk : k ≤ maxLen) :
    Calls Tryd.prog 32 #[imageV a n c ba m bc, .slice ca k cc] w (SumRes n ss m bs k cs w) := by
  by_cases hE : checkF n ss m bs (setB n k cs) = 0
  · exact Sum_ok a n c ba m bc ss bs ca k cc cs w B hBw hS hM hC hk hE
  · exact Sum_bad a n c ba m bc ss bs ca k cc cs w B hBw hS hM hC hk hE
end Go.Proofs.YtollfpnfnciekaaDoor
