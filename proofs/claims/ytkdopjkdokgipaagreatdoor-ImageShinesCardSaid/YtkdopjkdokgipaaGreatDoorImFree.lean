/- The walk of image.free. -/
import Derived.Test.YtkdopjkdokgipaaGreatDoorGhA
import Derived.Test.YtkdopjkdokgipaaGreatDoorImHolds
import Derived.LoopIn
import Derived.Sort.CutIn
import Derived.Sort.QuietIn
namespace Go.Proofs.YtkdopjkdokgipaaGreatDoor
open Go.RowKit Go.Shelf
set_option linter.unusedVariables false
set_option linter.unusedSimpArgs false
attribute [local go_sem] Oper.semAt_some
/-- what free hands back -/
def FreeRes (n : Nat) (ss : Nat → SV) (m : Nat) (bs : Nat → BM) (w : World) (e : Ending) (w' : World) : Prop :=
  Below w.heap.size w w' ∧ ∃ a c, e = .returned (.tuple #[.slice a (freeL (freeC ss m bs (allF n ss m bs)) n).length c, .bool (!(allF n ss m bs).isEmpty)]) ∧ w'.ownsRow w.heap.size 3 1 (.slice a (freeL (freeC ss m bs (allF n ss m bs)) n).length c) (freeL (freeC ss m bs (allF n ss m bs)) n).length (nC (freeL (freeC ss m bs (allF n ss m bs)) n))
/-- the row of free cells and its box -/
structure FA (V2 : World) (sB n : Nat) (g : Nat → Bool) (wr : World) : Prop where
  below : Below (sB + 1) V2 wr
  row : TR wr (sB + 1) n g
  box : wr.heap[sB + 1 + 1]? = some (.cells #[.slice (some ⟨sB + 1, 0, none⟩) n n] 167)
section
variable {V2 wr wr' : World} {sB n : Nat} {g g' : Nat → Bool}
theorem FA.congr (h : FA V2 sB n g wr) (e : ∀ j, j < n → g j = g' j) : FA V2 sB n g' wr := ⟨h.below, h.row.congr e, h.box⟩
theorem FA.lt (h : FA V2 sB n g wr) : sB + 1 + 1 < wr.heap.size := (Array.getElem?_eq_some_iff.1 h.box).1
theorem FA.step (h : FA V2 sB n g wr) (hb : Below wr.heap.size wr wr') : FA V2 sB n g wr' := ⟨h.below.trans (hb.mono (by have := h.lt; omega)), h.row.step hb, (hb.block _ h.lt).trans h.box⟩
theorem FA.set (h : FA V2 sB n g wr) {i : Nat} (hi : i < n) (x : Bool) : FA V2 sB n (fun j => if j = i then x else g j) (wr.setCell ⟨sB + 1, i, none⟩ (.bool x)) :=
  ⟨h.below.setCell (p := ⟨sB + 1, i, none⟩) (Nat.le_refl _) _, h.row.set hi x, (heap_setCell_other wr ⟨sB + 1, i, none⟩ (sB + 1 + 1) _ (by show sB + 1 + 1 ≠ sB + 1; omega)).trans h.box⟩
end
/-- what a round holds on to -/
structure FB (X : Nat → Prop) (W : World) (sB kb n : Nat) (g : Nat → Bool) (wr : World) : Prop where
  st : BodyStep X W wr X
  row : TR wr (sB + 1) n g
  box : wr.heap[sB + 1 + 1]? = some (.cells #[.slice (some ⟨sB + 1, 0, none⟩) n n] 167)
  kn : wr.heap[kb]? = some (.cells #[.bool true] 4)
theorem BodyStep.on {X X' : Nat → Prop} {A B C : World} (h : BodyStep X A B X') (hb : Below B.heap.size B C) : BodyStep X A C X' :=
  ⟨hb.os.trans h.os, hb.tape.trans h.tape, hb.output.trans h.output, Nat.le_trans h.size hb.size, fun b hl hx => (hb.block b (Nat.lt_of_lt_of_le hl h.size)).trans (h.block b hl hx), h.new, fun b hx => by
    obtain ⟨o, h1, h2⟩ := h.cells b hx
    exact ⟨o, (hb.block b (Array.getElem?_eq_some_iff.1 h1).1).trans h1, h2⟩⟩
section
variable {X : Nat → Prop} {W wr wr' : World} {sB kb n : Nat} {g g' : Nat → Bool}
theorem FB.congr (h : FB X W sB kb n g wr) (e : ∀ j, j < n → g j = g' j) : FB X W sB kb n g' wr := ⟨h.st, h.row.congr e, h.box, h.kn⟩
theorem FB.drewN (h : FB X W sB kb n g wr) (q : Nat) : FB X W sB kb n g (wr.drewN q) := ⟨⟨h.st.os, h.st.tape, h.st.output, h.st.size, h.st.block, h.st.new, h.st.cells⟩, h.row, h.box, h.kn⟩
theorem FB.step (h : FB X W sB kb n g wr) (hb : Below wr.heap.size wr wr') : FB X W sB kb n g wr' :=
  ⟨h.st.on hb, h.row.step hb, (hb.block _ (Array.getElem?_eq_some_iff.1 h.box).1).trans h.box, (hb.block _ (Array.getElem?_eq_some_iff.1 h.kn).1).trans h.kn⟩
theorem FB.set (h : FB X W sB kb n g wr) (hx : X (sB + 1)) (hk : sB + 1 + 1 < kb) {i : Nat} (hi : i < n) (x : Bool) : FB X W sB kb n (fun j => if j = i then x else g j) (wr.setCell ⟨sB + 1, i, none⟩ (.bool x)) :=
  ⟨h.st.setCell hx _, h.row.set hi x, (heap_setCell_other wr ⟨sB + 1, i, none⟩ (sB + 1 + 1) _ (by show sB + 1 + 1 ≠ sB + 1; omega)).trans h.box, (heap_setCell_other wr ⟨sB + 1, i, none⟩ kb _ (by show kb ≠ sB + 1; omega)).trans h.kn⟩
end
theorem info_bools : (Tryz.prog.info? 4).map (fun i => (i.zero, i.size, i.bytes)) = some (some (.bool false), 1, 1) := by kernel_rfl
theorem make_bools (n : Nat) (hn : n ≤ 1000000) (W : World) : (Instr.makeSlice 167 (.int .i64 (n : Int)) (.int .i64 (n : Int))).run Tryz.prog W = .ok (.slice (some ⟨W.heap.size, 0, none⟩) n n) (W.alloc (.cells (madeCells #[.bool false] n) 4)) := by
  obtain ⟨i0, hi, hz0, hz1, hz2⟩ := info_parts info_bools
  have := run_make (P := Tryz.prog) W 167 4 i0 _ Tryz.underlying167 hi hz0 .i64 .i64 (n : Int) (n : Int) (by omega) (Int.le_refl _) (by rw [hz2]; omega) (by omega)
  rw [hz1, show (Value.bool false).cells = #[.bool false] from rfl] at this
  simpa using this
theorem SpansR.weak {R R' : Nat → Prop} {w : World} {a : Option Addr} {n : Nat} {ss : Nat → SV} (hw : ∀ b, R b → R' b) (h : SpansR R w a n ss) : SpansR R' w a n ss := by
  rcases h with h | ⟨b, off, ha, hB, hz, hc⟩
  · exact .inl h
  · exact .inr ⟨b, off, ha, hw b hB, hz, hc⟩
theorem SearchAt.weak {R R' : Nat → Prop} {n : Nat} {ss : Nat → SV} {m : Nat} {bs : Nat → BM} {sp : Nat} {W : World} (hw : ∀ b, R b → R' b) (h : SearchAt R n ss m bs sp W) : SearchAt R' n ss m bs sp W := by
  obtain ⟨ca, cc, ba, bc, wa, wc, ra, rc, h0, h1, h2, h3, h4, h5, h6, h7⟩ := h.img
  refine ⟨hw _ h.own, h.lt, ca, cc, ba, bc, wa, wc, ra, rc, h0, h1, h2, h3, h4.weak hw, ?_, ?_, ?_⟩
  · rcases h5 with h | ⟨b, off, ha, hB, hz, hc⟩
    · exact .inl h
    · exact .inr ⟨b, off, ha, hw b hB, hz, hc⟩
  · rcases h6 with h | ⟨b, off, ha, hB, hz, hc⟩
    · exact .inl h
    · refine .inr ⟨b, off, ha, hw b hB, hz, fun i hil => ?_⟩
      obtain ⟨ra, rc, k1, k2⟩ := hc i hil
      exact ⟨ra, rc, k1, k2.weak hw⟩
  · rcases h7 with h | ⟨b, off, ha, hB, hz, hc⟩
    · exact .inl h
    · refine .inr ⟨b, off, ha, hw b hB, hz, fun i hil => ?_⟩
      obtain ⟨ra, rc, k1, k2⟩ := hc i hil
      exact ⟨ra, rc, k1, k2.weak hw⟩
set_option maxRecDepth 100000 in
set_option maxHeartbeats 2000000 in
theorem free_any (a : Option Addr) (n c : Nat) (ba : Option Addr) (m bc : Nat) (ss : Nat → SV) (bs : Nat → BM) (w : World) (B : Nat) (hBw : B ≤ w.heap.size) (hS : Spans B w a n ss) (hM : Beams B w ba m bs) (hSh : Shape n ss m bs) :
    Calls Tryz.prog 57 #[imageV a n c ba m bc] w (FreeRes n ss m bs w) := by
  have HS := Lib.hid hS
  have HM := Lib.hid hM
  have hn40 := hSh.n40
  have hm20 := hSh.m20
  have HSh := Lib.hid hSh
  have HR := Lib.hid (fun (w' : World) (hb : Below w.heap.size w w') (a' : Option Addr) (c' : Nat) (ho : w'.ownsRow w.heap.size 3 1 (.slice a' (freeL (freeC ss m bs (allF n ss m bs)) n).length c') (freeL (freeC ss m bs (allF n ss m bs)) n).length (nC (freeL (freeC ss m bs (allF n ss m bs)) n))) => show FreeRes n ss m bs w (.returned (.tuple #[.slice a' (freeL (freeC ss m bs (allF n ss m bs)) n).length c', .bool (!(allF n ss m bs).isEmpty)])) w' from ⟨hb, a', c', rfl, ho⟩)
  have hmk := make_bools n (by omega)
  clear hS hM hSh
  generalize FreeRes n ss m bs w = RES at *
  refine (callsIn_wide (n := 6)).1 ?_; refine callsIn_of_wp_marks Tryz.func57 rfl trivial ?_ rfl; simp only [Tryz.ntmps57, List.size_toArray, List.length_cons, List.length_nil, Nat.reduceAdd, Nat.reduceSub, Array.replicate_succ, Array.replicate_zero, List.push_toArray, List.append_toArray, List.nil_append, List.cons_append]; refine wpIn_wide.2 ?_
  go_upto_region 1 with (fail)
  have HLI := Lib.hid (show LI a n c ba m bc w (w.alloc (.cells #[.slice a n c, .slice ba m bc] 50)) from LI_start)
  have hz0 : (w.alloc (.cells #[.slice a n c, .slice ba m bc] 50)).heap.size = w.heap.size + 1 := by simp
  generalize World.alloc w _ = V at *
  obtain ⟨l0, l1, l2, l3⟩ := HLI.out
  go_upto_region 2 with (go_at_call 52; refine (look_any a n c ba m bc ss bs _ B (by omega) (HS.out.below (l3.mono hBw)) (HM.out.below (l3.mono hBw)) HSh.out).mono ?_; rintro e w2 ⟨rfl, wa, wc, ra, rc, ws, rs, lk⟩; have HLK := Lib.hid lk; clear lk)
  have HSW := Lib.hid (HLK.out.search (HS.out.below (l3.mono hBw)) (HM.out.below (l3.mono hBw)) (by omega))
  rw [hz0] at HSW
  have HB2 := Lib.hid HLK.out.li.2.2.2
  have HLI2 := Lib.hid (LI_step HLI.out HB2.out)
  have hz2 := HB2.out.size
  clear HLK l0 l1 l2 l3 HLI
  have HLI3 := Lib.hid (LI_step HLI2.out (alloc_below w2 (.cells #[.pointer (some ⟨w.heap.size + 1 + 1, 0, none⟩)] 103)))
  have hs0 : (w2.alloc (.cells #[.pointer (some ⟨w.heap.size + 1 + 1, 0, none⟩)] 103)).heap[w2.heap.size]? = some (.cells #[.pointer (some ⟨w.heap.size + 1 + 1, 0, none⟩)] 103) := heap_alloc_new _ _
  have hz3 : (w2.alloc (.cells #[.pointer (some ⟨w.heap.size + 1 + 1, 0, none⟩)] 103)).heap.size = w2.heap.size + 1 := by simp
  have HSW3 := Lib.hid (HSW.out.rests (R := Rk B (w.heap.size + 1) w2.heap.size) (Rests.below (alloc_below w2 (.cells #[.pointer (some ⟨w.heap.size + 1 + 1, 0, none⟩)] 103)) (fun b hb => by rcases hb with h | h <;> omega)) (by omega))
  generalize World.alloc w2 _ = V2 at *
  generalize hsB : w2.heap.size = sB at *
  clear hsB
  have HSB := Lib.hid hs0
  clear hs0
  obtain ⟨l0, l1, l2, l3⟩ := HLI3.out
  go_upto_region 3 with (fail)
  obtain ⟨hVb, hVz, e1, e2⟩ := two_allocs V2 (.cells (madeCells #[.bool false] n) 4) (.cells #[.slice (some ⟨sB + 1, 0, none⟩) n n] 167)
  have HTR0 := Lib.hid (show TR ((V2.alloc (.cells (madeCells #[.bool false] n) 4)).alloc (.cells #[.slice (some ⟨sB + 1, 0, none⟩) n n] 167)) V2.heap.size n (fun _ => false) from (TR.made V2 n).alloc _)
  generalize World.alloc (World.alloc V2 _) _ = V3 at *
  rw [hz3] at e2 hVz HTR0 hVb
  have HFA := Lib.hid (show FA V2 sB n (fun _ => false) V3 from ⟨hVb, HTR0.out, e2⟩)
  clear e1 e2 hVb hmk HTR0
  obtain ⟨m0, m1, m2, m3⟩ := LI_step HLI3.out (show Below V2.heap.size V2 V3 by rw [hz3]; exact HFA.out.below)
  clear l0 l1 l2 l3
  go_wp2
  go_loopw [27] (fun t wr => ∃ i : Nat, i ≤ n ∧ t = .int .i64 (i : Int) ∧ Hid (FA V2 sB n (fun j => decide (j < i) && decide ((ss j).lo < (ss j).hi)) wr)) (fun t _ => n - (intOf t).toNat)
  case atStart => exact ⟨0, Nat.zero_le _, rfl, Lib.hid (HFA.out.congr (fun j _ => by simp))⟩
  case round =>
    clear HFA m0 m1 m2 m3
    obtain ⟨i, hi, rfl, HFA⟩ := hrel
    have hb2 : Below w.heap.size w wr := HLI3.out.2.2.2.trans (HFA.out.below.mono (by have := HLI3.out.2.2.1; omega))
    by_cases hlt : i < n
    · have hlt' : (i : Int) < (n : Int) := by omega
      obtain ⟨xb, xo, rfl, hxB, x0, x1⟩ := (HS.out.below (hb2.mono hBw)).get hlt
      have hz := hb2.size
      have hxz : xb < wr.heap.size := by omega
      have HCG := Lib.hid (fun j (hj : j < n) => show (if j = i then decide ((ss i).lo < (ss i).hi) else (decide (j < i) && decide ((ss j).lo < (ss j).hi))) = (decide (j < i + 1) && decide ((ss j).lo < (ss j).hi)) from by
        by_cases e : j = i
        · subst e; rw [if_pos rfl]; simp
        · rw [if_neg e, show decide (j < i + 1) = decide (j < i) from by by_cases h : j < i; (rw [decide_eq_true h]; exact decide_eq_true (by omega)); (rw [decide_eq_false h]; exact decide_eq_false (by omega))])
      generalize hlo : (ss i).lo = lo at *
      generalize hhi : (ss i).hi = hi at *
      go_upto_region 6 with (fail)
      have HFA2 := Lib.hid (HFA.out.step (alloc_below wr (.cells #[.int .i64 lo, .int .i64 hi] 28)))
      have c0 : (wr.alloc (.cells #[.int .i64 lo, .int .i64 hi] 28)).cell? ⟨wr.heap.size, 0, none⟩ = some (.int .i64 lo) := cell_of_row _ _ _ _ _ _ (heap_alloc_new wr _)
      have c1 : (wr.alloc (.cells #[.int .i64 lo, .int .i64 hi] 28)).cell? ⟨wr.heap.size, 1, none⟩ = some (.int .i64 hi) := cell_of_row _ _ _ _ _ _ (heap_alloc_new wr _)
      clear HFA x0 x1 hb2 hlo hhi
      generalize World.alloc wr _ = Vx at *
      generalize wr.heap.size = bx at *
      have c2 : Vx.cell? ⟨sB + 1 + 1, 0, none⟩ = some (.slice (some ⟨sB + 1, 0, none⟩) n n) := cell_of_row _ _ _ _ _ _ HFA2.out.box
      have c3 := HFA2.out.row.cell hlt
      have c4 := HFA2.out.row.frozen i
      have HFA3 := Lib.hid ((HFA2.out.set hlt (decide (lo < hi))).congr (fun j hj => HCG.out j hj))
      go_wp2
      go_roundw
      case rel => exact ⟨i + 1, by omega, by go_num, HFA3⟩
      case measure => simp [intOf]; omega
    · obtain rfl : n = i := by omega
      have hlt' : ¬ (n : Int) < (n : Int) := by omega
      have HF0 := Lib.hid (HFA.out.congr (g' := fun j => freeC ss m bs [] j) (fun j hj => by rw [decide_eq_true hj]; simp [freeC]))
      clear HFA
      have hsz : sB + 1 + 1 < wr.heap.size := HF0.out.lt
      have hsc : wr.cell? ⟨sB, 0, none⟩ = some (.pointer (some ⟨w.heap.size + 1 + 1, 0, none⟩)) := ((bcell HF0.out.below).1 _ _ (by omega)).trans (cell_of_row _ _ _ _ _ _ HSB.out)
      go_upto_region 9 with (fail)
      have hk1 := alloc_below wr (.cells #[.bool false] 4)
      have hk2 := heap_alloc_new wr (.cells #[.bool false] 4)
      have hk3 : (wr.alloc (.cells #[.bool false] 4)).heap.size = wr.heap.size + 1 := by simp
      have hk4 := ((bcell hk1).1 sB 0 (by omega)).trans hsc
      have HF1 := Lib.hid (HF0.out.step hk1)
      have hb4 : Below w.heap.size w (wr.alloc (.cells #[.bool false] 4)) := hb2.trans (hk1.mono hb2.size)
      clear hsc HF0 hk1
      generalize World.alloc wr _ = V4 at *
      generalize wr.heap.size = kb at *
      go_wp2_with (go_at_call 53; refine (fields_any _ _).mono ?_; rintro e w' ⟨rfl, rfl⟩)
      obtain ⟨q1, q2⟩ := And.intro (alloc_below V4 (.cells #[.pointer (some ⟨w.heap.size + 1 + 1, 0, none⟩)] 103)) (heap_alloc_new V4 (.cells #[.pointer (some ⟨w.heap.size + 1 + 1, 0, none⟩)] 103))
      have q3 : (V4.alloc (.cells #[.pointer (some ⟨w.heap.size + 1 + 1, 0, none⟩)] 103)).heap.size = kb + 1 + 1 := by simp [hk3]
      have HF2 := Lib.hid (HF1.out.step q1)
      have hb5 := hb4.trans (q1.mono hb4.size)
      have q4 := (q1.block kb (by omega)).trans hk2
      rw [hk3] at q2
      clear HF1 q1 hk2 hk4
      have HSR := Lib.hid ((HSW3.out.rests (Rests.below HF2.out.below (fun b hb => by rcases hb with h | h <;> omega)) HF2.out.below.size).weak (R' := fun b => b ≤ sB ∨ b = kb + 1) (fun b hb => by rcases hb with h | h <;> omega))
      refine wp_fields (fun b => b ≤ sB ∨ b = kb + 1) n ss m bs (w.heap.size + 1 + 1) (kb + 1) HSh.out HSR.out (fun b hb => by rw [q3]; rcases hb with h | h <;> omega) (.inr rfl) (cell_of_row _ _ _ _ _ _ q2) w hb5 rfl rfl
        (fun b => b = sB + 1 ∨ b = sB + 1 + 1 ∨ b = kb) ?hX0
        (fun X xs W => X (sB + 1) ∧ X (sB + 1 + 1) ∧ X kb ∧ TR W (sB + 1) n (fun j => freeC ss m bs (xs.map FX.f) j) ∧ W.heap[sB + 1 + 1]? = some (.cells #[.slice (some ⟨sB + 1, 0, none⟩) n n] 167) ∧ W.heap[kb]? = some (.cells #[.bool (!(xs.map FX.f).isEmpty)] 4)) (fun cd X xs W => False)
        ?hT (fun _ _ _ _ _ h _ => h) ?h0 (fun x => ⟨#[imageV a n c ba m bc, .pointer (some ⟨w.heap.size, 0, none⟩), .slice none 0 0, .bool false, .pointer (some ⟨sB, 0, none⟩), .pointer (some ⟨sB + 1 + 1, 0, none⟩), u6, u7, .pointer (some ⟨kb, 0, none⟩), .slice x.fa n n, .slice x.sa m m, undef, undef, undef, undef, undef, undef, undef, .agg #[.slice a n c, .slice ba m bc], .pointer (some ⟨w.heap.size + 1 + 1, 0, none⟩), .pointer (some ⟨w.heap.size, 0, none⟩), .slice a n c, .int .i64 n, .slice (some ⟨sB + 1, 0, none⟩) n n, .pointer (some ⟨w.heap.size, 0, none⟩), .slice a n c, .int .i64 n, .int .i64 n, .bool false, u29, u30, u31, u32, u33, u34, u35, u36, u37, u38, u39, u40, .pointer (some ⟨w.heap.size + 1 + 1, 0, none⟩), .func (.func 88) #[] #[.pointer (some ⟨kb + 1, 0, none⟩)], .slice x.fa n n, .slice x.sa m m, undef, undef, undef, undef, undef, undef, undef, undef, undef, undef, undef, undef, undef, undef, undef, undef, undef, undef, undef, undef, undef, undef, undef, undef, undef, undef, undef, undef, undef, undef, undef, undef, undef, undef, undef, undef, undef, undef, undef, undef, undef, undef, undef, undef, undef, undef, undef, undef, undef, undef, undef, undef, undef, undef, undef, undef, undef, undef, undef, undef, undef, undef, undef, undef, undef, undef, undef, undef, undef, undef, undef, undef, undef, undef, undef, undef, undef, undef, undef, undef, undef, undef, undef, undef, undef, undef, undef, undef, undef], []⟩) ?hassign ?hbody ?hdone ?hstop
      case hX0 =>
        obtain ⟨cur, hcur, _, _⟩ := HF2.out.row
        rintro b (rfl | rfl | rfl)
        · exact ⟨by omega, fun h => by rcases h with h | h <;> omega, _, hcur, rfl⟩
        · exact ⟨by omega, fun h => by rcases h with h | h <;> omega, _, HF2.out.box, rfl⟩
        · exact ⟨by omega, fun h => by rcases h with h | h <;> omega, _, q4, rfl⟩
      case hT =>
        rintro X xs W W' ⟨h1, h2, h3, h4, h5, h6⟩ hk
        exact ⟨h1, h2, h3, h4.block (hk _ h1), (hk _ h2).trans h5, (hk _ h3).trans h6⟩
      case h0 => exact ⟨.inl rfl, .inr (.inl rfl), .inr (.inr rfl), HF2.out.row, HF2.out.box, q4⟩
      case hassign =>
        intro l x W K hK
        gi_wp2
        exact hK
      case hbody =>
        have HL5 := Lib.hid (LI_step HLI3.out (show Below V2.heap.size V2 (V4.alloc (.cells #[.pointer (some ⟨w.heap.size + 1 + 1, 0, none⟩)] 103)) by rw [hz3]; exact HF2.out.below))
        have HS5 := Lib.hid ((HF2.out.below.block sB (by omega)).trans HSB.out)
        have hsk : sB + 1 + 1 < kb := hsz
        have hws : w.heap.size ≤ sB := by have := HLI2.out.2.2.1; omega
        clear HF2 hb5 q2 q4 HSW3 HSW HB2 hb4 hk3
        generalize World.alloc V4 _ = V5 at *
        rintro l pre ⟨xf, xfa, xsa⟩ O X W hszw hm ⟨hx1, hx2, hx3, ts, t1, t2⟩ hsh hbel hrest
        dsimp only
        obtain ⟨hxl, hxi, ⟨fb, rfl, hfo, hfz, hfc⟩, hsu⟩ := hsh
        dsimp only at hxl hxi hfc hsu
        obtain ⟨l0, l1, _, _⟩ := HL5.out
        have HKR := Lib.hid (fun (wr : World) (st : BodyStep X W wr X) (b : Nat) (hb : b ≤ sB ∨ b = kb + 1) => show wr.heap[b]? = W.heap[b]? from st.block b (by rcases hb with h | h <;> omega) (fun hx => hm.rest b hx hb))
        have HKO := Lib.hid (fun (wr : World) (st : BodyStep X W wr X) (b : Nat) (hb : O b) (hl : b < W.heap.size) => show wr.heap[b]? = W.heap[b]? from st.block b hl (fun hx => hm.off b hx hb))
        have HKC := Lib.hid (fun (wr : World) (st : BodyStep X W wr X) (b o : Nat) (hb : b ≤ sB ∨ b = kb + 1) => show wr.cell? ⟨b, o, none⟩ = W.cell? ⟨b, o, none⟩ from World.cell?_of_block (HKR.out wr st b hb))
        have HOC := Lib.hid (fun (wr : World) (st : BodyStep X W wr X) (b o : Nat) (hb : O b) (hl : b < W.heap.size) => show wr.cell? ⟨b, o, none⟩ = W.cell? ⟨b, o, none⟩ from World.cell?_of_block (HKO.out wr st b hb hl))
        have c0 := (hrest.cell (o := 0) (Or.inl hws)).trans l0
        have c1 := (hrest.cell (o := 1) (Or.inl hws)).trans l1
        have f2 : W.frozen? ⟨kb, 0, none⟩ = false := frozen_of_row _ _ _ _ _ t2
        have f3 : W.cell? ⟨kb, 0, none⟩ = some (.bool (!(pre.map FX.f).isEmpty)) := cell_of_row _ _ _ _ _ _ t2
        have HB0 := Lib.hid (show FB X W sB kb n (fun j => freeC ss m bs (pre.map FX.f) j && openTo ss bs xf 0 0 j) (W.setCell ⟨kb, 0, none⟩ (.bool true)) from ⟨(BodyStep.refl hm).setCell hx3 _, (ts.other (by omega) _).congr (fun j _ => by rw [openTo_zero, Bool.and_true]), (heap_setCell_other W ⟨kb, 0, none⟩ (sB + 1 + 1) _ (by show sB + 1 + 1 ≠ kb; omega)).trans t1, heap_setCell_same W kb 0 _ _ _ t2⟩)
        have HSp := Lib.hid ((HS.out.below (hbel.mono hBw)).inR (R := fun b => b ≤ sB) (fun b hb => by omega) (by have := hbel.size; omega))
        have HBm := Lib.hid ((HM.out.below (hbel.mono hBw)).inR (R := fun b => b ≤ sB) (fun b hb => by omega) (by have := hbel.size; omega))
        obtain ⟨ca, cc, ba', bc', wa, wc, ra, rc, g0, g1, g2, g3, g4, g5, g6, g7⟩ := (HSR.out.rests hrest hszw).img
        have G2 := Lib.hid g2
        have G6 := Lib.hid g6
        have G3 := Lib.hid ((hrest.cell (b := sB) (o := 0) (Or.inl (Nat.le_refl _))).trans (cell_of_row _ _ _ _ _ _ HS5.out))
        have C0 := Lib.hid c0
        have HFC := Lib.hid hfc
        have HSU := Lib.hid hsu
        have HXI := Lib.hid hxi
        have HSB2 := Lib.hid (fun i (hi : i < m) => sums_bound HSh.out (p := xf) (by omega) hxi hi)
        have hsp : w.heap.size + 1 + 1 ≤ sB ∨ w.heap.size + 1 + 1 = kb + 1 := HSR.out.own
        clear hfc hsu hxi
        clear g0 g1 g2 g3 g4 g5 g6 g7 hrest hbel hm t1 t2 ts
        gi_upto_region 13 with (fail)
        clear f2 f3
        have c1 := (HKC.out _ HB0.out.st w.heap.size 1 (.inl hws)).trans c1
        generalize World.setCell W _ _ = W1 at *
        gi_wp2
        gi_loopw [48] (fun t wr => ∃ i : Nat, i ≤ m ∧ t = .int .i64 (i : Int) ∧ Hid (FB X W sB kb n (fun j => freeC ss m bs (pre.map FX.f) j && openTo ss bs xf i 0 j) wr)) (fun t _ => m - (intOf t).toNat)
        case atStart => exact ⟨0, Nat.zero_le _, rfl, HB0⟩
        case round =>
          clear HB0
          obtain ⟨i, hi, rfl, HFB⟩ := hrel
          by_cases hlt2 : i < m
          · have hlt2' : (i : Int) < (m : Int) := by omega
            obtain ⟨bb, bo, rfl, hbR, hbz, d0, d1, d2, d3⟩ := HBm.out.get hlt2
            have e0 := (HKC.out wr HFB.out.st bb _ (.inl hbR)).trans d0
            have e1 := (HKC.out wr HFB.out.st bb _ (.inl hbR)).trans d1
            have e2 := (HKC.out wr HFB.out.st bb _ (.inl hbR)).trans d2
            have e3 := (HKC.out wr HFB.out.st bb _ (.inl hbR)).trans d3
            obtain ⟨wb, woff, ra2, rc2, rfl, hwR, hwz, z0, z1⟩ := G6.out.get hlt2
            have HZ1 := Lib.hid z1
            have hBS := HSB2.out i hlt2
            obtain ⟨sb, so, rfl, hsO, hsbz, s0⟩ := HSU.out.get hlt2
            have HS0 := Lib.hid s0
            have HZ0 := Lib.hid z0
            have HBI := Lib.hid (fun k => show bindB ss (bs i) (fOf xf) (sumsOf bs xf i) k = (decide (0 < (bs i).w k) && (decide (sumsOf bs xf i - (bs i).w k * (fOf xf k - (ss k).lo) < (bs i).lo) || decide ((bs i).hi < sumsOf bs xf i + (bs i).w k * ((ss k).hi - fOf xf k)))) from rfl)
            have hbd := HSh.out.bound i hlt2
            clear d0 d1 d2 d3 z1 s0 z0
            gi_upto_region 16 with (fail)
            have HN := Lib.hid (heap_alloc_new wr (.cells #[.slice (bs i).ca (bs i).cn (bs i).cc, .slice (bs i).wa (bs i).wn (bs i).wc, .int .i64 (bs i).lo, .int .i64 (bs i).hi] 31))
            have HFB2 := Lib.hid (HFB.out.step (alloc_below wr (.cells #[.slice (bs i).ca (bs i).cn (bs i).cc, .slice (bs i).wa (bs i).wn (bs i).wc, .int .i64 (bs i).lo, .int .i64 (bs i).hi] 31)))
            have hbx : W.heap.size ≤ wr.heap.size := HFB.out.st.size
            clear e0 e1 e2 e3 HFB c1
            generalize World.alloc wr _ = V6 at *
            generalize wr.heap.size = bx at *
            have g2 := (HKC.out V6 HFB2.out.st (w.heap.size + 1 + 1) 2 hsp).trans G2.out
            have g3 := (HKC.out V6 HFB2.out.st sB 0 (.inl (Nat.le_refl _))).trans G3.out
            have g4 := (HKC.out V6 HFB2.out.st wb (woff + i) hwR).trans HZ0.out
            gi_wp2
            gi_loopw [61] (fun t wx => ∃ k : Nat, k ≤ n ∧ t = .int .i64 (k : Int) ∧ Hid (FB X W sB kb n (fun j => freeC ss m bs (pre.map FX.f) j && openTo ss bs xf i k j) wx) ∧ Hid (wx.heap[bx]? = some (.cells #[.slice (bs i).ca (bs i).cn (bs i).cc, .slice (bs i).wa (bs i).wn (bs i).wc, .int .i64 (bs i).lo, .int .i64 (bs i).hi] 31))) (fun t _ => n - (intOf t).toNat)
            case atStart => exact ⟨0, Nat.zero_le _, rfl, HFB2, HN⟩
            case round =>
              clear HFB2 HN g2 g3 g4
              obtain ⟨k, hk, rfl, HFX, HNX⟩ := hrel
              by_cases hlt3 : k < n
              · have hlt3' : (k : Int) < (n : Int) := by omega
                obtain ⟨rb, roff, rfl, hrR, hrz, z3⟩ := HZ1.out.get hlt3
                obtain ⟨xb, xo, rfl, hxR, hxz, x0, x1⟩ := HSp.out.get hlt3
                have g0 := (HKC.out wr HFX.out.st rb (roff + k) hrR).trans z3
                have g1 := (HOC.out wr HFX.out.st fb k hfo hfz).trans (HFC.out k hlt3)
                have g2 := (HOC.out wr HFX.out.st sb (so + i) hsO hsbz).trans HS0.out
                have g3 := (HKC.out wr HFX.out.st xb (xo + k * 2) (.inl hxR)).trans x0
                have g4 := (HKC.out wr HFX.out.st xb (xo + k * 2 + 1) (.inl hxR)).trans x1
                have g5 := (HKC.out wr HFX.out.st w.heap.size 0 (.inl hws)).trans C0.out
                have g6 : wr.cell? ⟨bx, 2, none⟩ = some (.int .i64 (bs i).lo) := cell_of_row _ _ _ _ _ _ HNX.out
                have g7 : wr.cell? ⟨bx, 3, none⟩ = some (.int .i64 (bs i).hi) := cell_of_row _ _ _ _ _ _ HNX.out
                have r0 := HFX.out.row.cell hlt3
                have r1 := HFX.out.row.frozen k
                have r2 : wr.cell? ⟨sB + 1 + 1, 0, none⟩ = some (.slice (some ⟨sB + 1, 0, none⟩) n n) := cell_of_row _ _ _ _ _ _ HFX.out.box
                have hwv := HSh.out.w hlt2 k
                have hsv := HSh.out.span k hlt3
                have hfv := HXI.out k (by omega)
                have HBK := Lib.hid (HBI.out k)
                have HST := Lib.hid (fun q => (FB.drewN HFX.out q).set hx1 hsk hlt3 false)
                have HNS := Lib.hid (fun q => (heap_setCell_other (wr.drewN q) ⟨sB + 1, k, none⟩ bx (.bool false) (by show bx ≠ sB + 1; omega)).trans HNX.out)
                have HHIT := Lib.hid (fun j => @openTo_hit ss bs xf i k (freeC ss m bs (pre.map FX.f) j) j)
                have HMIS := Lib.hid (fun j => @openTo_miss ss bs xf i k (freeC ss m bs (pre.map FX.f) j) j)
                have p1 := mul_abs (a := (bs i).w k) (b := fOf xf k - (ss k).lo) (A := 1000000) (B := 1000) ⟨by omega, by omega⟩ ⟨by omega, by omega⟩ (by omega)
                have p2 := mul_abs (a := (bs i).w k) (b := (ss k).hi - fOf xf k) (A := 1000000) (B := 1000) ⟨by omega, by omega⟩ ⟨by omega, by omega⟩ (by omega)
                generalize hBK : bindB ss (bs i) (fOf xf) (sumsOf bs xf i) k = BK at *
                clear hBK
                generalize sumsOf bs xf i = S at *
                generalize (bs i).lo = blo at *
                generalize (bs i).hi = bhi at *
                generalize (bs i).w k = wv at *
                generalize fOf xf k = fv at *
                generalize (ss k).lo = lo at *
                generalize (ss k).hi = hi2 at *
                generalize hP1 : wv * (fv - lo) = P1 at *
                generalize hP2 : wv * (hi2 - fv) = P2 at *
                by_cases h1 : 0 < wv
                · by_cases h2 : S - P1 < blo
                  · have HBT := Lib.hid (show BK = true by rw [HBK.out, decide_eq_true h1, decide_eq_true h2]; rfl)
                    gi_upto_region 19 with (fail); (refine wpIn_quiet_round (by kernel_rfl) (by kernel_rfl) (by kernel_rfl) ?_; (repeat (gi_big_quiet_step (fail))); refine wpQuietIn_nil ?_; intro _ hw'; obtain ⟨nq, hw''⟩ := hw'; subst hw''); have HFN := Lib.hid ((HST.out nq).congr (fun j hj => HHIT.out j HBT.out)); have HNN := Lib.hid (HNS.out nq); clear HFX HNX HBK HHIT HMIS HST HNS HBT g0 g1 g2 g3 g4 g5 g6 g7 h1; gi_wp2; exact ⟨⟨k + 1, by omega, by go_num, HFN, HNN⟩, by simp [intOf]; omega⟩
                  · by_cases h3 : bhi < S + P2
                    · have HBT := Lib.hid (show BK = true by rw [HBK.out, decide_eq_true h1, decide_eq_true h3, Bool.or_true]; rfl)
                      gi_upto_region 19 with (fail); (refine wpIn_quiet_round (by kernel_rfl) (by kernel_rfl) (by kernel_rfl) ?_; (repeat (gi_big_quiet_step (fail))); refine wpQuietIn_nil ?_; intro _ hw'; obtain ⟨nq, hw''⟩ := hw'; subst hw''); have HFN := Lib.hid ((HST.out nq).congr (fun j hj => HHIT.out j HBT.out)); have HNN := Lib.hid (HNS.out nq); clear HFX HNX HBK HHIT HMIS HST HNS HBT g0 g1 g2 g3 g4 g5 g6 g7 h1; gi_wp2; exact ⟨⟨k + 1, by omega, by go_num, HFN, HNN⟩, by simp [intOf]; omega⟩
                    · have HBT := Lib.hid (show BK = false by rw [HBK.out, decide_eq_false h2, decide_eq_false h3, Bool.or_false, Bool.and_false])
                      gi_upto_region 19 with (fail); (refine wpIn_quiet_round (by kernel_rfl) (by kernel_rfl) (by kernel_rfl) ?_; (repeat (gi_big_quiet_step (fail))); refine wpQuietIn_nil ?_; intro _ hw'; obtain ⟨nq, hw''⟩ := hw'; subst hw''); have HFN := Lib.hid ((FB.drewN HFX.out nq).congr (fun j hj => HMIS.out j HBT.out)); have HNN := Lib.hid (show (wr.drewN nq).heap[bx]? = _ from HNX.out); clear HFX HNX HBK HHIT HMIS HST HNS HBT g0 g1 g2 g3 g4 g5 g6 g7 h1; gi_wp2; exact ⟨⟨k + 1, by omega, by go_num, HFN, HNN⟩, by simp [intOf]; omega⟩
                · have HBT := Lib.hid (show BK = false by rw [HBK.out, decide_eq_false h1, Bool.false_and])
                  gi_upto_region 19 with (fail); (refine wpIn_quiet_round (by kernel_rfl) (by kernel_rfl) (by kernel_rfl) ?_; (repeat (gi_big_quiet_step (fail))); refine wpQuietIn_nil ?_; intro _ hw'; obtain ⟨nq, hw''⟩ := hw'; subst hw''); have HFN := Lib.hid ((FB.drewN HFX.out nq).congr (fun j hj => HMIS.out j HBT.out)); have HNN := Lib.hid (show (wr.drewN nq).heap[bx]? = _ from HNX.out); clear HFX HNX HBK HHIT HMIS HST HNS HBT g0 g1 g2 g3 g4 g5 g6 g7 h1; gi_wp2; exact ⟨⟨k + 1, by omega, by go_num, HFN, HNN⟩, by simp [intOf]; omega⟩
              · obtain rfl : n = k := by omega
                have hlt3' : ¬ (n : Int) < (n : Int) := by omega
                gi_wp2
                exact ⟨⟨i + 1, by omega, by go_num, Lib.hid (HFX.out.congr (fun j hj => by rw [openTo_next hj]))⟩, by simp [intOf]; omega⟩
          · obtain rfl : m = i := by omega
            have hlt2' : ¬ (m : Int) < (m : Int) := by omega
            gi_wp2
            exact ⟨X, HFB.out.st, hx1, hx2, hx3, HFB.out.row.congr (fun j _ => by rw [List.map_append, List.map_singleton, freeC_snoc, openTo_end]), HFB.out.box, by rw [HFB.out.kn]; simp⟩
      case hdone =>
        rintro D xs X W hD hDl hDX hxs ⟨hx1, hx2, hx3, ts, t1, t2⟩ hbel hDD
        rw [hxs] at ts t2
        have HDD := Lib.hid hDD
        have hDw : w.heap.size ≤ D := Nat.le_trans hb5.size hD
        have HTS := Lib.hid ts
        have HBE := Lib.hid hbel
        have HIB2 := Lib.hid t1
        have HKB := Lib.hid t2
        have hWs := ts.lt
        have c1 : W.cell? ⟨sB + 1 + 1, 0, none⟩ = some (.slice (some ⟨sB + 1, 0, none⟩) n n) := cell_of_row _ _ _ _ _ _ t1
        obtain ⟨i0, hi, hz00, hz01, hz02⟩ := info_parts info_int
        generalize hgg : freeC ss m bs (allF n ss m bs) = g at *
        clear hgg hxs t1 t2 ts hDD hbel HF2 hb5 q2 q4 HSW3 HSW HB2 hb4 hk3 HSR hb2 q3 HLI3 HLI2 HS HM HSB hz0 hz2 hz3
        go_wp2
        go_loopw [15, 121] (fun s15 t wr => ∃ (i k : Nat) (oa : Option Addr) (oc : Nat), i ≤ n ∧ k ≤ i ∧ t = .int .i64 (i : Int) ∧ s15 = .slice oa k oc ∧ Hid (k = (freeL g i).length ∧ Below W.heap.size W wr ∧ wr.ownsRow W.heap.size 3 1 (.slice oa k oc) k (nC (freeL g i)))) (fun _ t _ => n - (intOf t).toNat)
        case atStart => exact ⟨0, 0, none, 0, Nat.zero_le _, Nat.zero_le _, rfl, rfl, Lib.hid ⟨rfl, Below.refl _ _, World.ownsRow_nil _ _ _ _⟩⟩
        case round =>
          obtain ⟨i, k, oa, oc, hil, hki, rfl, rfl, HX⟩ := hrel
          have hzr := HX.out.2.1.size
          by_cases hlt : i < n
          · have hlt' : (i : Int) < (n : Int) := by omega
            have r0 := ((bcell HX.out.2.1).1 _ i hWs).trans (HTS.out.cell hlt)
            cases hgi : g i
            · rw [hgi] at r0
              have HL := Lib.hid (show freeL g (i + 1) = freeL g i by rw [freeL_succ, hgi]; simp)
              clear hgi
              go_wp2
              go_roundw
              case rel => exact ⟨i + 1, k, oa, oc, by omega, by omega, by go_num, rfl, by rw [HL.out]; exact HX⟩
              case measure => simp [intOf]; omega
            · rw [hgi] at r0
              have HL := Lib.hid (show freeL g (i + 1) = freeL g i ++ [i] by rw [freeL_succ, hgi]; simp)
              clear hgi
              have hb63 : k + 1 ≤ maxLen := by unfold maxLen; omega
              have hb47 : (k + 1) * 8 ≤ 140737488355328 := by omega
              go_wp2_with (at_builtin; refine wpList_append_own _ rfl _ _ 24 rfl W.heap.size 3 i0 (.int .i64 0) 1 8 Tryz.underlying24 hi hz00 hz01 hz02 rfl (by decide) _ k (nC (freeL g i)) rfl (HX.out.2.2.alloc _) ⟨wr.heap.size, 0, none⟩ 1 1 [.int .i64 (i : Int)] rfl rfl cells_new int_one (by unfold maxLen; omega) hb47 (by simp; omega) ?_; intro v' w3 hown hgrow hnil; obtain ⟨a3, c3, rfl⟩ := own_len hown)
              go_roundw
              case rel => exact ⟨i + 1, k + 1, a3, c3, by omega, by omega, by go_num, rfl, Lib.hid ⟨by rw [HL.out, List.length_append, ← HX.out.1]; rfl, (HX.out.2.1.alloc hzr _).grown hgrow (by simp; omega) (fun b hb => own_block_le HX.out.2.2 hb), by rw [HL.out, nC_snoc]; exact hown⟩⟩
              case measure => simp [intOf]; omega
          · obtain rfl : n = i := by omega
            have hlt' : ¬ (n : Int) < (n : Int) := by omega
            have c2 := ((bcell HX.out.2.1).1 kb 0 (Array.getElem?_eq_some_iff.1 HKB.out).1).trans (cell_of_row _ _ _ _ _ _ HKB.out)
            have HD2 := Lib.hid ((HX.out.2.1.block D hDl).trans HDD.out)
            have HBW := Lib.hid (HBE.out.trans (HX.out.2.1.mono HBE.out.size))
            have HOW := Lib.hid HX.out.2.2
            have HKL := Lib.hid HX.out.1
            have hwW := HBE.out.size
            clear HX HDD HBE HTS HIB2 HKB c1
            go_upto_region 30 with (fail)
            go_region
            go_wp2
            obtain rfl := HKL.out
            exact leave_marked (v := .tuple #[.slice oa (freeL g n).length oc, .bool (!(allF n ss m bs).isEmpty)]) HD2.out (fun o' => ⟨by exact results_tmp2 (t := 2) (u := 3) rfl _ _ _, HR.out _ (below_put HBW.out.drew hDw o') _ _ (own_base (own_put (w := World.drew wr) (show World.ownsRow (World.drew wr) _ _ _ _ _ _ from HOW.out) hDl o') hwW)⟩)
      case hstop =>
        rintro D cd pre X W hD hDl hDX hk h
        exact h.elim
end Go.Proofs.YtkdopjkdokgipaaGreatDoor
