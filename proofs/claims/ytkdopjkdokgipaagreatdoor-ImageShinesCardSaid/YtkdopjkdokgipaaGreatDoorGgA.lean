/- Texts put together: ImFirst, ImCount. -/
import Derived.Test.YtkdopjkdokgipaaGreatDoorGfA
namespace Go.Proofs.YtkdopjkdokgipaaGreatDoor
open Go.RowKit Go.Shelf
set_option linter.unusedVariables false
set_option linter.unusedSimpArgs false
attribute [local go_sem] Oper.semAt_some
/-- numbers in a new row -/
def NewInts (w w' : World) (a : Option Addr) (n : Nat) (f : Nat → Int) : Prop := ∃ b, a = some ⟨b, 0, none⟩ ∧ w.heap.size ≤ b ∧ b < w'.heap.size ∧ ∀ i, i < n → w'.cell? ⟨b, i, none⟩ = some (.int .i64 (f i))
/-- what First hands back -/
def FirstRes (n : Nat) (ss : Nat → SV) (m : Nat) (bs : Nat → BM) (w : World) (e : Ending) (w' : World) : Prop :=
  Below w.heap.size w w' ∧
  (if checkN n ss m bs = 0 then match allF n ss m bs with
    | [] => e = .returned (.tuple #[.slice none 0 0, .int .i64 5])
    | g :: _ => ∃ a c, e = .returned (.tuple #[.slice a n c, .int .i64 0]) ∧ NewInts w w' a n (fOf g)
  else e = .returned (.tuple #[.slice none 0 0, .int .i64 (checkN n ss m bs)]))
set_option maxRecDepth 100000 in
set_option maxHeartbeats 1000000 in
theorem First_bad (a : Option Addr) (n c : Nat) (ba : Option Addr) (m bc : Nat) (ss : Nat → SV) (bs : Nat → BM) (w : World) (B : Nat) (hBw : B ≤ w.heap.size) (hS : Spans B w a n ss) (hM : Beams B w ba m bs) (hC : checkN n ss m bs ≠ 0) :
    Calls Tryz.prog 19 #[imageV a n c ba m bc] w (FirstRes n ss m bs w) := by
  have HS := Lib.hid hS
  have HM := Lib.hid hM
  have HR := Lib.hid (fun (w' : World) (hb : Below w.heap.size w w') => show FirstRes n ss m bs w (.returned (.tuple #[.slice none 0 0, .int .i64 (checkN n ss m bs)])) w' from ⟨hb, by rw [if_neg hC]⟩)
  obtain ⟨E, hE⟩ : ∃ E, E = checkN n ss m bs := ⟨_, rfl⟩
  have HC := Lib.hid hE.symm
  have h1 : (E != 0) = true := by rw [hE]; simpa using hC
  rw [← hE] at HR
  clear hS hM hC hE
  generalize FirstRes n ss m bs w = RES at *
  go_enter Tryz.func19, Tryz.ntmps19
  go_upto_region 1 with (fail)
  have HRB := Lib.hid (show RB a n c ba m bc w 24 32 (.slice none 0 0) (.int .i64 0) (((w.alloc (.cells #[.slice a n c, .slice ba m bc] 50)).alloc (.cells #[.slice none 0 0] 24)).alloc (.cells #[.int .i64 0] 32)) from RB.start)
  generalize World.alloc (World.alloc (World.alloc w _) _) _ = V at *
  obtain ⟨l0, l1, l2, l3⟩ := HRB.out.li
  go_wp2_with (go_at_call 51; refine (Check_any a n c ba m bc ss bs _ B (by omega) (HS.out.below (HRB.out.li.2.2.2.mono hBw)) (HM.out.below (HRB.out.li.2.2.2.mono hBw))).mono ?_; rintro e w1 ⟨rfl, hb⟩; rw [HC.out]; have HRB1 := Lib.hid (HRB.out.step hb); have c1 := HRB1.out.c1; have c2 := HRB1.out.c2; have f1 := HRB1.out.f1; have f2 := HRB1.out.f2; obtain ⟨k0, k1, k2, k3⟩ := HRB1.out.li)
  have HRB2 := Lib.hid (HRB1.out.set (.slice none 0 0) (.int .i64 E))
  exact bodyPost_ret (results_cells2 rfl _ _ _ _ _ _ rfl rfl Tryz.underlying24 Tryz.underlying32 rfl rfl HRB2.out.c1 HRB2.out.c2) rfl (HR.out _ HRB2.out.li.2.2.2)
theorem checkN_shape {n : Nat} {ss : Nat → SV} {m : Nat} {bs : Nat → BM} (h : checkN n ss m bs = 0) : Shape n ss m bs := by
  refine shapeB_iff.1 ?_
  unfold checkN at h
  cases e : shapeB n ss m bs
  · rw [if_pos e] at h; cases h
  · rfl
set_option maxRecDepth 100000 in
set_option maxHeartbeats 1000000 in
theorem First_ok (a : Option Addr) (n c : Nat) (ba : Option Addr) (m bc : Nat) (ss : Nat → SV) (bs : Nat → BM) (w : World) (B : Nat) (hBw : B ≤ w.heap.size) (hS : Spans B w a n ss) (hM : Beams B w ba m bs) (hC : checkN n ss m bs = 0) :
    Calls Tryz.prog 19 #[imageV a n c ba m bc] w (FirstRes n ss m bs w) := by
  have HS := Lib.hid hS
  have HM := Lib.hid hM
  have HSh := Lib.hid (checkN_shape hC)
  have HC := Lib.hid hC
  clear hS hM hC
  refine (callsIn_wide (n := 6)).1 ?_; refine callsIn_of_wp_marks Tryz.func19 rfl trivial ?_ rfl; simp only [Tryz.ntmps19, List.size_toArray, List.length_cons, List.length_nil, Nat.reduceAdd, Nat.reduceSub, Array.replicate_succ, Array.replicate_zero, List.push_toArray, List.append_toArray, List.nil_append, List.cons_append]; refine wpIn_wide.2 ?_
  go_upto_region 1 with (fail)
  have HRB := Lib.hid (show RB a n c ba m bc w 24 32 (.slice none 0 0) (.int .i64 0) (((w.alloc (.cells #[.slice a n c, .slice ba m bc] 50)).alloc (.cells #[.slice none 0 0] 24)).alloc (.cells #[.int .i64 0] 32)) from RB.start)
  generalize World.alloc (World.alloc (World.alloc w _) _) _ = V at *
  obtain ⟨l0, l1, l2, l3⟩ := HRB.out.li
  go_wp2_with (first | (go_at_call 51; refine (Check_any a n c ba m bc ss bs _ B (by omega) (HS.out.below (HRB.out.li.2.2.2.mono hBw)) (HM.out.below (HRB.out.li.2.2.2.mono hBw))).mono ?_; rintro e w1 ⟨rfl, hb⟩; rw [HC.out]; have HRB1 := Lib.hid (HRB.out.step hb); have c1 := HRB1.out.c1; have c2 := HRB1.out.c2; have f1 := HRB1.out.f1; have f2 := HRB1.out.f2; obtain ⟨k0, k1, k2, k3⟩ := HRB1.out.li) | (go_at_call 52; refine (look_any a n c ba m bc ss bs _ B (by have := HRB1.out.size; omega) (HS.out.below (HRB1.out.li.2.2.2.mono hBw)) (HM.out.below (HRB1.out.li.2.2.2.mono hBw)) HSh.out).mono ?_; intro e w2 hlook; obtain ⟨rfl, hb2, hz2, hSr⟩ := look_fields (t := 103) hlook (HS.out.below (HRB1.out.li.2.2.2.mono hBw)) (HM.out.below (HRB1.out.li.2.2.2.mono hBw)) (by have := HRB1.out.size; omega); have HRB2 := Lib.hid (HRB1.out.step hb2); have HSR := Lib.hid hSr; clear hlook hSr c1 c2 f1 f2 k0 k1) | (go_at_call 53; refine (fields_any _ _).mono ?_; rintro e w' ⟨rfl, rfl⟩))
  have hwz := HRB2.out.size
  have hw1 := HRB1.out.size
  have hb3 : Below w.heap.size w (w2.alloc (.cells #[.pointer (some ⟨w1.heap.size + 1, 0, none⟩)] 103)) := (HRB2.out.li.2.2.2).alloc (by omega) _
  have hRB3 := HRB2.out.step (alloc_below w2 (.cells #[.pointer (some ⟨w1.heap.size + 1, 0, none⟩)] 103))
  refine wp_fields (Rk B w1.heap.size (w2.heap.size + 1)) n ss m bs (w1.heap.size + 1) w2.heap.size HSh.out HSR.out (fun b hb => by simp; rcases hb with h | h <;> omega) (.inr ⟨by omega, by omega⟩) (cell_of_row _ _ _ _ _ _ (heap_alloc_new w2 _)) w hb3 rfl rfl
    (fun b => b = w.heap.size + 1 ∨ b = w.heap.size + 1 + 1) ?hX0
    (fun X xs W => xs = [] ∧ X (w.heap.size + 1) ∧ X (w.heap.size + 1 + 1) ∧ W.heap[w.heap.size + 1]? = some (.cells #[.slice none 0 0] 24) ∧ W.heap[w.heap.size + 1 + 1]? = some (.cells #[.int .i64 0] 32))
    (fun cd X xs W => cd = .ret ∧ ∃ x, xs = [x] ∧ X (w.heap.size + 1) ∧ X (w.heap.size + 1 + 1) ∧ ∃ g cap cur fz, W.heap[w.heap.size + 1]? = some (.cells #[.slice (some ⟨g, 0, none⟩) n cap] 24) ∧ W.heap[w.heap.size + 1 + 1]? = some (.cells #[.int .i64 0] 32) ∧ X g ∧ w.heap.size ≤ g ∧ W.heap[g]? = some (.cells cur 3 fz) ∧ ∀ c, c < n → cur[c]? = some (.int .i64 (fOf x.f c)))
    ?hT ?hTx ?h0 (fun x => ⟨#[imageV a n c ba m bc, .pointer (some ⟨w.heap.size, 0, none⟩), .pointer (some ⟨w.heap.size + 1, 0, none⟩), .pointer (some ⟨w.heap.size + 1 + 1, 0, none⟩), .int .i64 0, .slice x.fa n n, .agg #[.slice a n c, .slice ba m bc], .int .i64 0, .int .i64 0, .bool false, undef, .agg #[.slice a n c, .slice ba m bc], .pointer (some ⟨w1.heap.size + 1, 0, none⟩), .func (.func 88) #[] #[.pointer (some ⟨w2.heap.size, 0, none⟩)], .slice x.fa n n, .slice x.sa m m, undef, undef], []⟩) ?hassign ?hbody ?hdone ?hstop
  case hX0 =>
    rintro b (rfl | rfl)
    · exact ⟨by omega, fun h => by rcases h with h | h <;> omega, _, hRB3.r1, rfl⟩
    · exact ⟨by omega, fun h => by rcases h with h | h <;> omega, _, hRB3.r2, rfl⟩
  case hT =>
    rintro X xs W W' ⟨h1, h2, h3, h4, h5⟩ hk
    exact ⟨h1, h2, h3, (hk _ h2).trans h4, (hk _ h3).trans h5⟩
  case hTx =>
    rintro cd X xs W W' ⟨h1, x, h2, h3, h4, g, cap, cur, fz, h5, h6, h7, h8, h9, h10⟩ hk
    exact ⟨h1, x, h2, h3, h4, g, cap, cur, fz, (hk _ h3).trans h5, (hk _ h4).trans h6, h7, h8, (hk _ h7).trans h9, h10⟩
  case h0 => exact ⟨rfl, .inl rfl, .inr rfl, hRB3.r1, hRB3.r2⟩
  case hassign =>
    intro l x W K hK
    gi_wp2
    exact hK
  case hbody =>
    rintro l pre x O X W hsz hm ⟨rfl, hx1, hx2, t1, t2⟩ hsh hbel hrest
    have c1 : W.cell? ⟨w.heap.size + 1, 0, none⟩ = some (.slice none 0 0) := cell_of_row _ _ _ _ _ _ t1
    have c2 : W.cell? ⟨w.heap.size + 1 + 1, 0, none⟩ = some (.int .i64 0) := cell_of_row _ _ _ _ _ _ t2
    have f1 : W.frozen? ⟨w.heap.size + 1, 0, none⟩ = false := frozen_of_row _ _ _ _ _ t1
    have f2 : W.frozen? ⟨w.heap.size + 1 + 1, 0, none⟩ = false := frozen_of_row _ _ _ _ _ t2
    obtain ⟨fb, hfa, hfo, hfz, hfc⟩ := hsh.field
    have HCL := Lib.hid (cloneI_any x.fa n n (fOf x.f) W (.inr ⟨fb, 0, hfa, hfz, fun i hi => by rw [Nat.zero_add]; exact hfc i hi⟩) (by have := HSh.out.n40; omega) (fun h => by rw [hfa] at h; cases h))
    have HTT := Lib.hid (And.intro t1 t2)
    have HMM := Lib.hid hm
    have hn1 := HSh.out.n1
    have hwW := hbel.size
    clear hfa hfo hfz hfc t1 t2 hm hsh
    gi_wp2_with (fail)
    refine ⟨trivial, CallsIn.inRound l ((callsIn_wide.2 HCL.out).mono ?_)⟩
    rintro e W4 ⟨ca, cc, rfl, hown, hb4⟩
    obtain ⟨g, rfl, hg1, hg2⟩ := own_at hown (by omega)
    have hgr : ∃ cur f, W4.heap[g]? = some (.cells cur 3 f) := by
      rcases hown.2 with ⟨h, _⟩ | ⟨g', cap, cur, hv, _, hg, _⟩
      · cases h
      · injection hv with h1 _ _
        injection h1 with h1
        injection h1 with h1 _ _
        subst h1
        exact ⟨cur, _, hg⟩
    obtain ⟨cur, fz, hcur⟩ := hgr
    have hcc : ∀ i, i < n → cur[i]? = some (.int .i64 (fOf x.f i)) := fun i hi => by
      have h1 := hown.cellAt i (by omega)
      rw [iC_get hi] at h1
      rw [← h1]
      exact (cell_of_row _ _ _ _ _ _ hcur).symm
    have q1 := (hb4.block _ (HMM.out.lt hx1)).trans HTT.out.1
    have q2 := (hb4.block _ (HMM.out.lt hx2)).trans HTT.out.2
    have hz4 := hb4.size
    have r1 : w.heap.size + 1 < W.heap.size := HMM.out.lt hx1
    have r2 : w.heap.size + 1 + 1 < W.heap.size := HMM.out.lt hx2
    have hgw : w.heap.size ≤ g := by omega
    have HST := Lib.hid (show BodyStep X W ((W4.setCell ⟨w.heap.size + 1, 0, none⟩ (.slice (some ⟨g, 0, none⟩) n cc)).setCell ⟨w.heap.size + 1 + 1, 0, none⟩ (.int .i64 0)) (fun b => X b ∨ b = g) from
      (((BodyStep.below HMM.out hb4).add hg1 hcur rfl).setCell hx1 _).setCell hx2 _)
    have HTX := Lib.hid (show ((W4.setCell ⟨w.heap.size + 1, 0, none⟩ (.slice (some ⟨g, 0, none⟩) n cc)).setCell ⟨w.heap.size + 1 + 1, 0, none⟩ (.int .i64 0)).heap[w.heap.size + 1]? = some (.cells #[.slice (some ⟨g, 0, none⟩) n cc] 24) ∧ ((W4.setCell ⟨w.heap.size + 1, 0, none⟩ (.slice (some ⟨g, 0, none⟩) n cc)).setCell ⟨w.heap.size + 1 + 1, 0, none⟩ (.int .i64 0)).heap[w.heap.size + 1 + 1]? = some (.cells #[.int .i64 0] 32) ∧ ((W4.setCell ⟨w.heap.size + 1, 0, none⟩ (.slice (some ⟨g, 0, none⟩) n cc)).setCell ⟨w.heap.size + 1 + 1, 0, none⟩ (.int .i64 0)).heap[g]? = some (.cells cur 3 fz) from
      ⟨(heap_setCell_other _ ⟨w.heap.size + 1 + 1, 0, none⟩ (w.heap.size + 1) _ (by show w.heap.size + 1 ≠ w.heap.size + 1 + 1; omega)).trans (heap_setCell_same W4 _ 0 _ _ _ q1),
       heap_setCell_same _ _ 0 _ _ _ ((heap_setCell_other W4 ⟨w.heap.size + 1, 0, none⟩ (w.heap.size + 1 + 1) _ (by show w.heap.size + 1 + 1 ≠ w.heap.size + 1; omega)).trans q2),
       (heap_setCell_other _ ⟨w.heap.size + 1 + 1, 0, none⟩ g _ (by show g ≠ w.heap.size + 1 + 1; omega)).trans ((heap_setCell_other W4 ⟨w.heap.size + 1, 0, none⟩ g _ (by show g ≠ w.heap.size + 1; omega)).trans hcur)⟩)
    have HCC := Lib.hid hcc
    have d1 : W4.cell? ⟨w.heap.size + 1, 0, none⟩ = some (.slice none 0 0) := cell_of_row _ _ _ _ _ _ q1
    have d2 : W4.cell? ⟨w.heap.size + 1 + 1, 0, none⟩ = some (.int .i64 0) := cell_of_row _ _ _ _ _ _ q2
    have e1 : W4.frozen? ⟨w.heap.size + 1, 0, none⟩ = false := frozen_of_row _ _ _ _ _ q1
    have e2 : W4.frozen? ⟨w.heap.size + 1 + 1, 0, none⟩ = false := frozen_of_row _ _ _ _ _ q2
    clear q1 q2 hcur hcc hown hb4 c1 c2 f1 f2 HTT HCL
    dsimp only
    gi_wp2
    exact ⟨_, HST.out, rfl, x, rfl, .inl hx1, .inl hx2, g, cc, cur, fz, HTX.out.1, HTX.out.2.1, .inr rfl, hgw, HTX.out.2.2, HCC.out⟩
  case hdone =>
    rintro D xs X W hD hDl hDX hxs ⟨rfl, hx1, hx2, t1, t2⟩ hbel hDD
    have HA := Lib.hid (show allF n ss m bs = [] from hxs.symm)
    clear hxs
    have c1 : W.cell? ⟨w.heap.size + 1, 0, none⟩ = some (.slice none 0 0) := cell_of_row _ _ _ _ _ _ t1
    have c2 : W.cell? ⟨w.heap.size + 1 + 1, 0, none⟩ = some (.int .i64 0) := cell_of_row _ _ _ _ _ _ t2
    have f1 : W.frozen? ⟨w.heap.size + 1, 0, none⟩ = false := frozen_of_row _ _ _ _ _ t1
    have f2 : W.frozen? ⟨w.heap.size + 1 + 1, 0, none⟩ = false := frozen_of_row _ _ _ _ _ t2
    have HTT := Lib.hid (And.intro t1 t2)
    have hD1 : D ≠ w.heap.size + 1 := fun e => hDX (by rw [e]; exact hx1)
    have hD2 : D ≠ w.heap.size + 1 + 1 := fun e => hDX (by rw [e]; exact hx2)
    have HDD := Lib.hid hDD
    have HBE := Lib.hid hbel
    have hDw : w.heap.size ≤ D := Nat.le_trans hb3.size hD
    clear t1 t2 hDD
    go_wp2
    have q1 := (heap_setCell_other (W.setCell ⟨w.heap.size + 1, 0, none⟩ (.slice none 0 0)) ⟨w.heap.size + 1 + 1, 0, none⟩ (w.heap.size + 1) (.int .i64 5) (by show w.heap.size + 1 ≠ w.heap.size + 1 + 1; omega)).trans (heap_setCell_same W _ 0 _ _ (.slice none 0 0) HTT.out.1)
    have q2 := heap_setCell_same (W.setCell ⟨w.heap.size + 1, 0, none⟩ (.slice none 0 0)) _ 0 _ _ (.int .i64 5) ((heap_setCell_other W ⟨w.heap.size + 1, 0, none⟩ (w.heap.size + 1 + 1) (.slice none 0 0) (by show w.heap.size + 1 + 1 ≠ w.heap.size + 1; omega)).trans HTT.out.2)
    have q3 := (heap_setCell_other (W.setCell ⟨w.heap.size + 1, 0, none⟩ (.slice none 0 0)) ⟨w.heap.size + 1 + 1, 0, none⟩ D (.int .i64 5) hD2).trans ((heap_setCell_other W ⟨w.heap.size + 1, 0, none⟩ D (.slice none 0 0) hD1).trans HDD.out)
    have q4 := (HBE.out.setCell (p := ⟨w.heap.size + 1, 0, none⟩) (by show w.heap.size ≤ w.heap.size + 1; omega) (.slice none 0 0)).setCell (p := ⟨w.heap.size + 1 + 1, 0, none⟩) (by show w.heap.size ≤ w.heap.size + 1 + 1; omega) (.int .i64 5)
    exact leave_marked q3 (fun o' => ⟨results_cells2 rfl _ _ _ _ _ _ rfl rfl Tryz.underlying24 Tryz.underlying32 rfl rfl (cell_of_row _ _ _ _ _ _ ((World.putObj_heap_other (Ne.symm hD1)).trans q1)) (cell_of_row _ _ _ _ _ _ ((World.putObj_heap_other (Ne.symm hD2)).trans q2)), below_put q4 hDw o', by rw [if_pos HC.out, HA.out]; rfl⟩)
  case hstop =>
    rintro D cd pre X W hD hDl hDX ⟨k, hk⟩ ⟨rfl, x, rfl, hx1, hx2, g, cap, cur, fz, t1, t2, hg, hgw, t3, t4⟩ hbel hDD
    have hD1 : D ≠ w.heap.size + 1 := fun e => hDX (by rw [e]; exact hx1)
    have hD2 : D ≠ w.heap.size + 1 + 1 := fun e => hDX (by rw [e]; exact hx2)
    have hD3 : g ≠ D := fun e => hDX (by rw [← e]; exact hg)
    have hDw : w.heap.size ≤ D := Nat.le_trans hb3.size hD
    have hgz : g < W.heap.size := (Array.getElem?_eq_some_iff.1 t3).1
    have HA := Lib.hid (show ∃ r, allF n ss m bs = x.f :: r from by
      cases k with
      | zero => simp at hk
      | succ k =>
        cases e : allF n ss m bs with
        | nil => rw [e] at hk; simp at hk
        | cons y r => rw [e] at hk; simp at hk; exact ⟨r, by rw [hk.1]⟩)
    have HQ := Lib.hid (show ∀ o', FirstRes n ss m bs w (.returned (.tuple #[.slice (some ⟨g, 0, none⟩) n cap, .int .i64 0])) (W.putObj D o') from fun o' => ⟨below_put hbel hDw o', by
      obtain ⟨r, hr⟩ := HA.out
      rw [if_pos HC.out, hr]
      exact ⟨_, _, rfl, g, rfl, hgw, by simpa using hgz, fun i hi => (cell_of_row _ _ _ _ _ _ ((World.putObj_heap_other hD3).trans t3)).trans (t4 i hi)⟩⟩)
    have HTT := Lib.hid (And.intro t1 t2)
    have HDD := Lib.hid hDD
    clear hk t1 t2 t3 t4 hDD
    go_wp2
    exact leave_marked HDD.out (fun o' => ⟨results_cells2 rfl _ _ _ _ _ _ rfl rfl Tryz.underlying24 Tryz.underlying32 rfl rfl (cell_of_row _ _ _ _ _ _ ((World.putObj_heap_other (Ne.symm hD1)).trans HTT.out.1)) (cell_of_row _ _ _ _ _ _ ((World.putObj_heap_other (Ne.symm hD2)).trans HTT.out.2)), HQ.out o'⟩)
theorem First_any (a : Option Addr) (n c : Nat) (ba : Option Addr) (m bc : Nat) (ss : Nat → SV) (bs : Nat → BM) (w : World) (B : Nat) (hBw : B ≤ w.heap.size) (hS : Spans B w a n ss) (hM : Beams B w ba m bs) :
    Calls Tryz.prog 19 #[imageV a n c ba m bc] w (FirstRes n ss m bs w) := by
  by_cases hC : checkN n ss m bs = 0
  · exact First_ok a n c ba m bc ss bs w B hBw hS hM hC
  · exact First_bad a n c ba m bc ss bs w B hBw hS hM hC
end Go.Proofs.YtkdopjkdokgipaaGreatDoor
namespace Go.Proofs.YtkdopjkdokgipaaGreatDoor
open Go.RowKit Go.Shelf
set_option linter.unusedVariables false
set_option linter.unusedSimpArgs false
attribute [local go_sem] Oper.semAt_some
/-- what Count hands back -/
def CountRes (n : Nat) (ss : Nat → SV) (m : Nat) (bs : Nat → BM) (w : World) (e : Ending) (w' : World) : Prop :=
  Below w.heap.size w w' ∧ e = .returned (.tuple #[.int .i64 (if checkN n ss m bs = 0 then ((allF n ss m bs).length : Int) else 0), .int .i64 (checkN n ss m bs)])
def prodR (n : Nat) (ss : Nat → SV) : Nat → Nat
  | 0 => 1
  | r + 1 => densN (ss (n - (r + 1))) * prodR n ss r
theorem flat_le {α β : Type} {f : α → List β} {K : Nat} : ∀ (l : List α), (∀ x ∈ l, (f x).length ≤ K) → (l.flatMap f).length ≤ l.length * K
  | [], _ => by simp
  | x :: l, h => by
    have h1 := flat_le l (fun y hy => h y (List.mem_cons_of_mem _ hy))
    have h2 := h x (by simp)
    rw [List.flatMap_cons, List.length_append, List.length_cons, Nat.add_mul]
    omega
theorem enumF_len {n : Nat} {ss : Nat → SV} {ag : List Int → Bool} : ∀ r pre, (enumF n ss ag r pre).length ≤ prodR n ss r
  | 0, pre => by rw [enumF]; split <;> simp [prodR]
  | r + 1, pre => by
    rw [enumF, prodR, ← dens_len]
    exact flat_le _ (fun d _ => enumF_len r _)
theorem prodR_eq {n : Nat} {ss : Nat → SV} (h : ∀ i, i < n → (ss i).lo ≤ (ss i).hi) : ∀ r, r ≤ n → (prodR n ss r : Int) * prodN ss (n - r) = prodN ss n
  | 0, _ => by simp [prodR]
  | r + 1, hr => by
    have ih := prodR_eq h r (by omega)
    have h1 := h (n - (r + 1)) (by omega)
    have h2 : n - r = n - (r + 1) + 1 := by omega
    rw [h2, prodN] at ih
    rw [prodR, ← ih]
    have hd : ((densN (ss (n - (r + 1))) : Nat) : Int) = (ss (n - (r + 1))).hi - (ss (n - (r + 1))).lo + 1 := by unfold densN; omega
    rw [Int.natCast_mul, hd]
    generalize (ss (n - (r + 1))).hi - (ss (n - (r + 1))).lo + 1 = D
    generalize prodN ss (n - (r + 1)) = P
    generalize (prodR n ss r : Int) = Q
    rw [Int.mul_comm D Q, Int.mul_assoc, Int.mul_comm D P]
theorem allF_many {n : Nat} {ss : Nat → SV} {m : Nat} {bs : Nat → BM} (h : checkN n ss m bs = 0) : (allF n ss m bs).length ≤ 200000 := by
  have hS := checkN_shape h
  have h1 := enumF_len (n := n) (ss := ss) (ag := fun f => agreesB m bs (fOf f)) n []
  have h2 := prodR_eq (n := n) (ss := ss) (fun i hi => (hS.span i hi).2.1) n (Nat.le_refl _)
  rw [Nat.sub_self] at h2
  have h3 : longB n ss 200000 = false := by
    unfold checkN at h
    rw [if_neg (by rw [shapeB_iff.2 hS]; simp)] at h
    cases e : longB n ss 200000
    · rfl
    · rw [if_pos e] at h; cases h
  have h4 := of_decide_eq_false h3
  have h5 : prodN ss 0 = 1 := rfl
  rw [h5, Int.mul_one] at h2
  unfold allF
  omega
theorem wrap_succ (k : Nat) : wrap64 (wrap64 (k : Int) + 1) = wrap64 ((k + 1 : Nat) : Int) := by unfold wrap64; omega
set_option maxRecDepth 100000 in
set_option maxHeartbeats 1000000 in
theorem Count_bad (a : Option Addr) (n c : Nat) (ba : Option Addr) (m bc : Nat) (ss : Nat → SV) (bs : Nat → BM) (w : World) (B : Nat) (hBw : B ≤ w.heap.size) (hS : Spans B w a n ss) (hM : Beams B w ba m bs) (hC : checkN n ss m bs ≠ 0) :
    Calls Tryz.prog 21 #[imageV a n c ba m bc] w (CountRes n ss m bs w) := by
  have HS := Lib.hid hS
  have HM := Lib.hid hM
  have HR := Lib.hid (fun (w' : World) (hb : Below w.heap.size w w') => show CountRes n ss m bs w (.returned (.tuple #[.int .i64 0, .int .i64 (checkN n ss m bs)])) w' from ⟨hb, by rw [if_neg hC]⟩)
  obtain ⟨E, hE⟩ : ∃ E, E = checkN n ss m bs := ⟨_, rfl⟩
  have HC := Lib.hid hE.symm
  have h1 : (E != 0) = true := by rw [hE]; simpa using hC
  rw [← hE] at HR
  clear hS hM hC hE
  generalize CountRes n ss m bs w = RES at *
  go_enter Tryz.func21, Tryz.ntmps21
  go_upto_region 1 with (fail)
  have HLI := Lib.hid (show LI a n c ba m bc w (w.alloc (.cells #[.slice a n c, .slice ba m bc] 50)) from LI_start)
  generalize World.alloc w _ = V at *
  obtain ⟨l0, l1, l2, l3⟩ := HLI.out
  go_wp2_with (go_at_call 51; refine (Check_any a n c ba m bc ss bs _ B (by have := HLI.out.2.2.1; omega) (HS.out.below (HLI.out.2.2.2.mono hBw)) (HM.out.below (HLI.out.2.2.2.mono hBw))).mono ?_; rintro e w1 ⟨rfl, hb⟩; rw [HC.out]; have HLI1 := Lib.hid (LI_step HLI.out hb); obtain ⟨k0, k1, k2, k3⟩ := HLI1.out)
  exact HR.out _ k3
set_option maxRecDepth 100000 in
set_option maxHeartbeats 1000000 in
theorem Count_ok (a : Option Addr) (n c : Nat) (ba : Option Addr) (m bc : Nat) (ss : Nat → SV) (bs : Nat → BM) (w : World) (B : Nat) (hBw : B ≤ w.heap.size) (hS : Spans B w a n ss) (hM : Beams B w ba m bs) (hC : checkN n ss m bs = 0) :
    Calls Tryz.prog 21 #[imageV a n c ba m bc] w (CountRes n ss m bs w) := by
  have HS := Lib.hid hS
  have HM := Lib.hid hM
  have HSh := Lib.hid (checkN_shape hC)
  have HC := Lib.hid hC
  have HR := Lib.hid (fun (w' : World) (hb : Below w.heap.size w w') => show CountRes n ss m bs w (.returned (.tuple #[.int .i64 ((allF n ss m bs).length : Int), .int .i64 0])) w' from ⟨hb, by rw [if_pos hC, hC]⟩)
  have HL := Lib.hid (allF_many hC)
  clear hS hM hC
  generalize CountRes n ss m bs w = RES at *
  refine (callsIn_wide (n := 6)).1 ?_; refine callsIn_of_wp_marks Tryz.func21 rfl trivial ?_ rfl; simp only [Tryz.ntmps21, List.size_toArray, List.length_cons, List.length_nil, Nat.reduceAdd, Nat.reduceSub, Array.replicate_succ, Array.replicate_zero, List.push_toArray, List.append_toArray, List.nil_append, List.cons_append]; refine wpIn_wide.2 ?_
  go_upto_region 1 with (fail)
  have HLI := Lib.hid (show LI a n c ba m bc w (w.alloc (.cells #[.slice a n c, .slice ba m bc] 50)) from LI_start)
  generalize World.alloc w _ = V at *
  obtain ⟨l0, l1, l2, l3⟩ := HLI.out
  go_upto_region 5 with (go_at_call 51; refine (Check_any a n c ba m bc ss bs _ B (by have := HLI.out.2.2.1; omega) (HS.out.below (HLI.out.2.2.2.mono hBw)) (HM.out.below (HLI.out.2.2.2.mono hBw))).mono ?_; rintro e w1 ⟨rfl, hb⟩; rw [HC.out]; have HLI1 := Lib.hid (LI_step HLI.out hb); obtain ⟨k0, k1, k2, k3⟩ := HLI1.out)
  have HLI2 := Lib.hid (LI_step HLI1.out (alloc_below w1 (.cells #[.int .i64 0] 3)))
  have hN := heap_alloc_new w1 (.cells #[.int .i64 0] 3)
  have hz1 : (w1.alloc (.cells #[.int .i64 0] 3)).heap.size = w1.heap.size + 1 := by simp
  generalize World.alloc w1 _ = V1 at *
  generalize w1.heap.size = nb at *
  have HN := Lib.hid hN
  clear hN k0 k1 l0 l1
  obtain ⟨k0, k1, k4, k5⟩ := HLI2.out
  go_wp2_with (first | (go_at_call 52; refine (look_any a n c ba m bc ss bs _ B (by have := HLI2.out.2.2.1; omega) (HS.out.below (HLI2.out.2.2.2.mono hBw)) (HM.out.below (HLI2.out.2.2.2.mono hBw)) HSh.out).mono ?_; intro e w2 hlook; obtain ⟨rfl, hb2, hz2, hSr⟩ := look_fields (t := 103) hlook (HS.out.below (HLI2.out.2.2.2.mono hBw)) (HM.out.below (HLI2.out.2.2.2.mono hBw)) (by have := HLI2.out.2.2.1; omega); have HSR := Lib.hid hSr; have HB2 := Lib.hid hb2; clear hlook hSr hb2) | (go_at_call 53; refine (fields_any _ _).mono ?_; rintro e w' ⟨rfl, rfl⟩))
  clear k0 k1
  have hz2' := HB2.out.size
  have hW3 := alloc_below w2 (.cells #[.pointer (some ⟨nb + 1 + 1, 0, none⟩)] 103)
  have hN3 := (hW3.block nb (by omega)).trans ((HB2.out.block nb (by omega)).trans HN.out)
  have hb3 : Below w.heap.size w (w2.alloc (.cells #[.pointer (some ⟨nb + 1 + 1, 0, none⟩)] 103)) := (k5.trans (HB2.out.mono (by omega))).trans (hW3.mono (by omega))
  have hSR := HSR.out
  rw [hz1] at hSR
  refine wp_fields (Rk B (nb + 1) (w2.heap.size + 1)) n ss m bs (nb + 1 + 1) w2.heap.size HSh.out hSR (fun b hb => by simp; rcases hb with h | h <;> omega) (.inr ⟨by omega, by omega⟩) (cell_of_row _ _ _ _ _ _ (heap_alloc_new w2 _)) w hb3 rfl rfl
    (fun b => b = nb) ?hX0 (fun X xs W => X nb ∧ W.heap[nb]? = some (.cells #[.int .i64 (wrap64 (xs.length : Int))] 3)) (fun cd X xs W => False)
    ?hT (fun _ _ _ _ _ h _ => h) ?h0 (fun x => ⟨#[imageV a n c ba m bc, .pointer (some ⟨w.heap.size, 0, none⟩), .int .i64 0, .int .i64 0, .int .i64 0, .pointer (some ⟨nb, 0, none⟩), .agg #[.slice a n c, .slice ba m bc], .int .i64 0, .int .i64 0, .bool false, undef, .agg #[.slice a n c, .slice ba m bc], .pointer (some ⟨nb + 1 + 1, 0, none⟩), .func (.func 88) #[] #[.pointer (some ⟨w2.heap.size, 0, none⟩)], .slice x.fa n n, .slice x.sa m m, undef, undef, undef], []⟩) ?hassign ?hbody ?hdone ?hstop
  case hX0 =>
    rintro b rfl
    exact ⟨by omega, fun h => by rcases h with h | h <;> omega, _, hN3, rfl⟩
  case hT =>
    rintro X xs W W' ⟨h1, h2⟩ hk
    exact ⟨h1, (hk _ h1).trans h2⟩
  case h0 => exact ⟨rfl, by rw [show wrap64 ((([] : List FX).length : Nat) : Int) = 0 from by unfold wrap64; simp]; exact hN3⟩
  case hassign =>
    intro l x W K hK
    gi_wp2
    simpa [encFX] using hK
  case hbody =>
    rintro l pre x O X W hsz hm ⟨hx, ht⟩ hsh hbel hrest
    have c1 : W.cell? ⟨nb, 0, none⟩ = some (.int .i64 (wrap64 (pre.length : Int))) := cell_of_row _ _ _ _ _ _ ht
    have f1 : W.frozen? ⟨nb, 0, none⟩ = false := frozen_of_row _ _ _ _ _ ht
    have HTX := Lib.hid (show ∃ X', BodyStep X W (W.setCell ⟨nb, 0, none⟩ (.int .i64 (wrap64 (wrap64 (pre.length : Int) + 1)))) X' ∧ X' nb ∧ (W.setCell ⟨nb, 0, none⟩ (.int .i64 (wrap64 (wrap64 (pre.length : Int) + 1)))).heap[nb]? = some (.cells #[.int .i64 (wrap64 ((pre ++ [x]).length : Int))] 3) from
      ⟨X, (BodyStep.refl hm).setCell hx _, hx, by rw [List.length_append, List.length_singleton, ← wrap_succ]; exact heap_setCell_same W nb 0 _ _ _ ht⟩)
    generalize wrap64 (pre.length : Int) = v at *
    clear ht hm hsh
    gi_wp2
    exact HTX.out
  case hdone =>
    rintro D xs X W hD hDl hDX hxs ⟨hx, ht⟩ hbel hDD
    have hlen : xs.length = (allF n ss m bs).length := by rw [← hxs, List.length_map]
    have hw : wrap64 (xs.length : Int) = ((allF n ss m bs).length : Int) := by have := HL.out; rw [hlen]; unfold wrap64; omega
    rw [hw] at ht
    have c1 : W.cell? ⟨nb, 0, none⟩ = some (.int .i64 ((allF n ss m bs).length : Int)) := cell_of_row _ _ _ _ _ _ ht
    have HDD := Lib.hid hDD
    have HBE := Lib.hid hbel
    have hDw : w.heap.size ≤ D := Nat.le_trans hb3.size hD
    clear hxs ht hDD hlen hw
    generalize (allF n ss m bs).length = L at *
    go_wp2
    exact leave_marked (v := .tuple #[.int .i64 (L : Int), .int .i64 0]) HDD.out (fun o' => ⟨by exact results_tmp2 (t := 2) (u := 3) rfl _ _ _, HR.out _ (below_put HBE.out hDw o')⟩)
  case hstop =>
    rintro D cd pre X W hD hDl hDX hk h
    exact h.elim
theorem Count_any (a : Option Addr) (n c : Nat) (ba : Option Addr) (m bc : Nat) (ss : Nat → SV) (bs : Nat → BM) (w : World) (B : Nat) (hBw : B ≤ w.heap.size) (hS : Spans B w a n ss) (hM : Beams B w ba m bs) :
    Calls Tryz.prog 21 #[imageV a n c ba m bc] w (CountRes n ss m bs w) := by
  by_cases hC : checkN n ss m bs = 0
  · exact Count_ok a n c ba m bc ss bs w B hBw hS hM hC
  · exact Count_bad a n c ba m bc ss bs w B hBw hS hM hC
end Go.Proofs.YtkdopjkdokgipaaGreatDoor
