/- Texts put together: ImCatch, ImRefu, ImRefA. -/
import Derived.Test.YtkdopjkdokgipaaGreatDoorGwA
import Derived.Defers
import Derived.Recover
import Derived.Laws.Pointers
import Derived.Laws.BytesString
import Derived.Laws.IdiomStrings
import Derived.Test.YtkdopjkdokgipaaGreatDoorGgA
import Derived.Test.YtkdopjkdokgipaaGreatDoorImHolds
namespace Go.Proofs.YtkdopjkdokgipaaGreatDoor
open Go.RowKit
set_option linter.unusedVariables false
set_option linter.unusedSimpArgs false
set_option maxRecDepth 100000 in
set_option maxHeartbeats 1000000 in
theorem refute_idle (p q : Addr) (w : World) :
    CallsD Tryz.prog 62 #[.pointer (some p), .pointer (some q)] .returning w fun e u' w' => e = .returned (.tuple #[]) ∧ u' = .returning ∧ w' = w := by
  refine callsD_of_wpS Tryz.func62 rfl fun c₀ cs hu => ?_
  apply wpS_seq
  apply wpS_region
  simp [wpOpsS, go_sem, recoverD, hu, Tryz.ntmps62, Exit.thenS]
  refine wpS_of_wp ?_
  go_wp2
  cases c₀
  simp_all [bodyPostS, results, Tryz.results62]
set_option maxRecDepth 100000 in
set_option maxHeartbeats 1000000 in
theorem refute_catch (ob eb : Nat) (v : Value) (x : Int) (w : World) (hne : ob ≠ eb) (ho : w.heap[ob]? = some (.cells #[v] 64)) (he : w.heap[eb]? = some (.cells #[.int .i64 0] 32)) (hv : ∃ a n c, v = .slice a n c) :
    CallsD Tryz.prog 62 #[.pointer (some ⟨ob, 0, none⟩), .pointer (some ⟨eb, 0, none⟩)] (.panicking (longP x)) w fun e u' w' => e = .returned (.tuple #[]) ∧ u' = .panicking [{ v := .iface 123 (.agg #[.int .i64 x]), recovered := true }] ∧ w'.heap[ob]? = some (.cells #[.slice none 0 0] 64) ∧ w'.heap[eb]? = some (.cells #[.int .i64 3] 32) ∧ (∀ B W, B ≤ ob → B ≤ eb → Below B W w → Below B W w') := by
  obtain ⟨va, vn, vc, rfl⟩ := hv
  have c1 : w.cell? ⟨ob, 0, none⟩ = some (.slice va vn vc) := cell_of_row _ _ _ _ _ _ ho
  have c2 : w.frozen? ⟨ob, 0, none⟩ = false := frozen_of_row _ _ _ _ _ ho
  have c3 : w.cell? ⟨eb, 0, none⟩ = some (.int .i64 0) := cell_of_row _ _ _ _ _ _ he
  have c4 : w.frozen? ⟨eb, 0, none⟩ = false := frozen_of_row _ _ _ _ _ he
  have l1 : ob < w.heap.size := (Array.getElem?_eq_some_iff.1 ho).1
  have l2 : eb < w.heap.size := (Array.getElem?_eq_some_iff.1 he).1
  have hta : ∀ w : World, (Instr.typeAssert (.iface 123 (.agg #[.int .i64 x])) 20 123 true).run Tryz.prog w = .ok (.tuple #[.agg #[.int .i64 x], .bool true]) w := fun _ => by kernel_rfl
  unfold longP
  refine callsD_of_wpS Tryz.func62 rfl fun c₀ cs hu => ?_
  apply wpS_seq
  apply wpS_region
  simp [wpOpsS, go_sem, recoverD, hu, Tryz.ntmps62, Exit.thenS]
  refine wpS_of_wp ?_
  go_wp2
  have g1 := (heap_setCell_other (w.setCell ⟨ob, 0, none⟩ (.slice none 0 0)) ⟨eb, 0, none⟩ ob (.int .i64 3) hne).trans (heap_setCell_same w ob 0 _ _ (.slice none 0 0) ho)
  have g2 := heap_setCell_same (w.setCell ⟨ob, 0, none⟩ (.slice none 0 0)) eb 0 _ _ (.int .i64 3) ((heap_setCell_other w ⟨ob, 0, none⟩ eb (.slice none 0 0) (Ne.symm hne)).trans he)
  have hz : ((w.setCell ⟨ob, 0, none⟩ (.slice none 0 0)).setCell ⟨eb, 0, none⟩ (.int .i64 3)).heap.size = w.heap.size := by simp
  have G : ∀ o, (((w.setCell ⟨ob, 0, none⟩ (.slice none 0 0)).setCell ⟨eb, 0, none⟩ (.int .i64 3)).alloc o).heap[ob]? = some (.cells #[.slice none 0 0] 64) ∧ (((w.setCell ⟨ob, 0, none⟩ (.slice none 0 0)).setCell ⟨eb, 0, none⟩ (.int .i64 3)).alloc o).heap[eb]? = some (.cells #[.int .i64 3] 32) ∧ (∀ (B : Nat) (W : World), B ≤ ob → B ≤ eb → Below B W w → Below B W (((w.setCell ⟨ob, 0, none⟩ (.slice none 0 0)).setCell ⟨eb, 0, none⟩ (.int .i64 3)).alloc o)) := fun o =>
    ⟨((alloc_below _ o).block ob (by omega)).trans g1, ((alloc_below _ o).block eb (by omega)).trans g2, fun B W h1 h2 h3 => ((h3.setCell (p := ⟨ob, 0, none⟩) h1 _).setCell (p := ⟨eb, 0, none⟩) h2 _).alloc (by omega) o⟩
  have GH := Lib.hid (G (.cells #[.int .i64 x] 123))
  clear G g1 g2 hz hta c1 c2 c3 c4 ho he
  generalize ((w.setCell ⟨ob, 0, none⟩ (.slice none 0 0)).setCell ⟨eb, 0, none⟩ (.int .i64 3)).alloc _ = w9 at *
  simp [bodyPostS, results, Tryz.results62]
  exact GH.out
end Go.Proofs.YtkdopjkdokgipaaGreatDoor
namespace Go.Proofs.YtkdopjkdokgipaaGreatDoor
open Go.RowKit
set_option linter.unusedVariables false
set_option linter.unusedSimpArgs false
/-- the proof by halves of an image's whole box -/
def prfF (n : Nat) (ss : Nat → SV) (m : Nat) (bs : Nat → BM) : List NV := prf n m bs ((sizeN ss n).toNat + 1) ss 0
/-- what Refute hands back -/
def RefuteRes (n : Nat) (ss : Nat → SV) (m : Nat) (bs : Nat → BM) (w : World) (e : Ending) (w' : World) : Prop :=
  Below w.heap.size w w' ∧
  (if checkN n ss m bs = 0 then match allF n ss m bs with
    | [] => if (prfF n ss m bs).length ≤ 4000 then ∃ a c L ob, e = .returned (.tuple #[.slice a L.length c, .int .i64 0]) ∧ OutAt w.heap.size ob m (.slice a L.length c) w' L ∧ L.map NM.nv = prfF n ss m bs
      else e = .returned (.tuple #[.slice none 0 0, .int .i64 3])
    | _ :: _ => e = .returned (.tuple #[.slice none 0 0, .int .i64 6])
  else e = .returned (.tuple #[.slice none 0 0, .int .i64 (checkN n ss m bs)]))
theorem fOf_list {n : Nat} {f : Nat → Int} {c : Nat} (hc : c < n) : fOf ((List.range n).map f) c = f c := by
  unfold fOf
  rw [List.getD_eq_getElem?_getD]
  simp [hc]
theorem void_all {n m : Nat} {ss : Nat → SV} {bs : Nat → BM} (hS : Shape n ss m bs) (h : allF n ss m bs = []) : voidB n m bs ss := by
  intro f hf
  cases ha : agreesB m bs f with
  | false => rfl
  | true =>
    exfalso
    have hg : (List.range n).map f ∈ allF n ss m bs := by
      rw [allF_mem]
      refine ⟨?_, by simp, fun c hc => by rw [fOf_list hc]; exact hf c hc⟩
      rw [agreesB_congr hS (g := f) (fun c hc => fOf_list hc)]; exact ha
    rw [h] at hg
    cases hg
theorem halved_all {n m : Nat} {ss : Nat → SV} {bs : Nat → BM} (hS : Shape n ss m bs) (h : allF n ss m bs = []) : Halved n m bs ((sizeN ss n).toNat + 1) ss :=
  ⟨fun c hc => by have := hS.span c hc; omega, void_all hS h, by omega⟩
end Go.Proofs.YtkdopjkdokgipaaGreatDoor
namespace Go.Proofs.YtkdopjkdokgipaaGreatDoor
open Go.RowKit
set_option linter.unusedVariables false
set_option linter.unusedSimpArgs false
set_option maxRecDepth 100000 in
set_option maxHeartbeats 2000000 in
theorem Refute_early (a : Option Addr) (n c : Nat) (ba : Option Addr) (m bc : Nat) (w : World) (E : Int) (h5 : E ≠ 5)
    (hF : ∀ W, Below w.heap.size w W → Calls Tryz.prog 19 #[imageV a n c ba m bc] W fun e w' => ∃ v, e = .returned (.tuple #[v, .int .i64 E]) ∧ Below W.heap.size W w') :
    Calls Tryz.prog 24 #[imageV a n c ba m bc] w fun e w' => e = .returned (.tuple #[.slice none 0 0, .int .i64 (if E = 0 then 6 else E)]) ∧ Below w.heap.size w w' := by
  have HF := Lib.hid hF
  clear hF
  by_cases h0 : E = 0
  · subst h0
    rw [if_pos rfl]
    generalize hres : (fun e w' => e = Ending.returned (.tuple #[.slice none 0 0, .int .i64 6]) ∧ Below w.heap.size w w') = RES
    have HR := Lib.hid hres
    clear hres
    go_enter_defers Tryz.func24, Tryz.ntmps24
    go_upto_region 1 with (fail)
    have HRB := Lib.hid (show RB a n c ba m bc w 64 32 (.slice none 0 0) (.int .i64 0) (((w.alloc (.cells #[.slice a n c, .slice ba m bc] 50)).alloc (.cells #[.slice none 0 0] 64)).alloc (.cells #[.int .i64 0] 32)) from RB.start)
    generalize World.alloc (World.alloc (World.alloc w _) _) _ = V at *
    obtain ⟨l0, l1, l2, l3⟩ := HRB.out.li
    go_wp2_with (go_at_call 19; refine (HF.out _ HRB.out.li.2.2.2).mono ?_; rintro e w1 ⟨v, rfl, hb⟩; have HRB1 := Lib.hid (HRB.out.step hb); have c1 := HRB1.out.c1; have c2 := HRB1.out.c2; have f1 := HRB1.out.f1; have f2 := HRB1.out.f2; clear hb)
    have HRB2 := Lib.hid (HRB1.out.set (.slice none 0 0) (.int .i64 6))
    have y1 := HRB2.out.c1
    have y2 := HRB2.out.c2
    simp [bodyPostD, Leaves, settle, results, Tryz.results24, go_sem, y1, y2]
    rw [← HR.out]
    exact ⟨rfl, HRB2.out.li.2.2.2⟩
  · rw [if_neg h0]
    have h0' : (E == 0) = false := by rw [beq_eq_false_iff_ne]; exact h0
    have h5' : (E != 5) = true := by simpa using h5
    generalize hres : (fun e w' => e = Ending.returned (.tuple #[.slice none 0 0, .int .i64 E]) ∧ Below w.heap.size w w') = RES
    have HR := Lib.hid hres
    clear hres
    go_enter_defers Tryz.func24, Tryz.ntmps24
    go_upto_region 1 with (fail)
    have HRB := Lib.hid (show RB a n c ba m bc w 64 32 (.slice none 0 0) (.int .i64 0) (((w.alloc (.cells #[.slice a n c, .slice ba m bc] 50)).alloc (.cells #[.slice none 0 0] 64)).alloc (.cells #[.int .i64 0] 32)) from RB.start)
    generalize World.alloc (World.alloc (World.alloc w _) _) _ = V at *
    obtain ⟨l0, l1, l2, l3⟩ := HRB.out.li
    go_wp2_with (go_at_call 19; refine (HF.out _ HRB.out.li.2.2.2).mono ?_; rintro e w1 ⟨v, rfl, hb⟩; have HRB1 := Lib.hid (HRB.out.step hb); have c1 := HRB1.out.c1; have c2 := HRB1.out.c2; have f1 := HRB1.out.f1; have f2 := HRB1.out.f2; clear hb)
    have HRB2 := Lib.hid (HRB1.out.set (.slice none 0 0) (.int .i64 E))
    have y1 := HRB2.out.c1
    have y2 := HRB2.out.c2
    simp [bodyPostD, Leaves, settle, results, Tryz.results24, go_sem, y1, y2]
    rw [← HR.out]
    exact ⟨rfl, HRB2.out.li.2.2.2⟩
end Go.Proofs.YtkdopjkdokgipaaGreatDoor
