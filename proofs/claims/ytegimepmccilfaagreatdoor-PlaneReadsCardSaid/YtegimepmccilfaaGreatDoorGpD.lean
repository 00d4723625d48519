/- Texts put together: PlPar0, PlPar, PlRead. -/
import Derived.Test.YtegimepmccilfaaGreatDoorPlRd
import Derived.Defers
import Derived.Recover
import Derived.Laws.Pointers
import Derived.Test.YtegimepmccilfaaGreatDoorPlShelf
import Derived.Test.YtegimepmccilfaaGreatDoorPlaneD
namespace Go.Proofs.YtegimepmccilfaaGreatDoor
open Go.RowKit
set_option linter.unusedVariables false
set_option linter.unusedSimpArgs false
theorem head_cons (h : Tx) (r : List Tx) : headR (h :: r) = if Lib.hasPrefix h setupT = true then (match nmR (h.drop 6) with
    | none => none
    | some n => if n = (r.length : Int) then lnsR r else none) else none := rfl
theorem cut_drop {h : Tx} (hp : Lib.hasPrefix h setupT = true) : Lib.trimPrefix h setupT = h.drop 6 := by
  unfold Lib.trimPrefix
  rw [if_pos hp]
  rfl
theorem head_no {h : Tx} {r : List Tx} (hp : Lib.hasPrefix h setupT = false) : headR (h :: r) = none := by
  rw [head_cons, hp]
  rfl
theorem head_num {h : Tx} {r : List Tx} (hp : Lib.hasPrefix h setupT = true) (hn : nmR (Lib.trimPrefix h setupT) = none) : headR (h :: r) = none := by
  rw [cut_drop hp] at hn
  rw [head_cons, if_pos hp, hn]
theorem head_many {h : Tx} {r : List Tx} {n : Int} (hp : Lib.hasPrefix h setupT = true) (hn : nmR (Lib.trimPrefix h setupT) = some n) (hr : ¬ n = (r.length : Int)) : headR (h :: r) = none := by
  rw [cut_drop hp] at hn
  rw [head_cons, if_pos hp, hn]
  show (if n = (r.length : Int) then lnsR r else none) = none
  rw [if_neg hr]
theorem head_yes {h : Tx} {r : List Tx} {n : Int} (hp : Lib.hasPrefix h setupT = true) (hn : nmR (Lib.trimPrefix h setupT) = some n) (hr : n = (r.length : Int)) : headR (h :: r) = lnsR r := by
  rw [cut_drop hp] at hn
  rw [head_cons, if_pos hp, hn]
  show (if n = (r.length : Int) then lnsR r else none) = _
  rw [if_pos hr]
theorem lns_cons (l : Tx) (ls : List Tx) : lnsR (l :: ls) = match lineR (spl 32 l) with
    | none => none
    | some p => (lnsR ls).map (p :: ·) := by
  rw [lnsR]
  cases lineR (spl 32 l) with
  | none => rfl
  | some p =>
    simp only
    cases lnsR ls <;> rfl
/-- i lines are read as L -/
structure LnInv (ls : List Tx) (i : Nat) (L : List PR) : Prop where
  len : L.length = i
  is : lnsR ls = (lnsR (ls.drop i)).map (L.map toPP ++ ·)
theorem LnInv.start (ls : List Tx) : LnInv ls 0 [] := ⟨rfl, by
  show lnsR ls = (lnsR ls).map _
  cases lnsR ls <;> rfl⟩
theorem LnInv.step {ls : List Tx} {i : Nat} {L : List PR} {q : PR} (h : LnInv ls i L) (hi : i < ls.length) (hq : lineR (spl 32 (ls.getD i [])) = some (toPP q)) : LnInv ls (i + 1) (L ++ [q]) := ⟨by simp [h.len], by
  rw [h.is, drop_at hi, lns_cons, hq]
  show Option.map _ (Option.map _ (lnsR (ls.drop (i + 1)))) = _
  cases lnsR (ls.drop (i + 1)) with
  | none => rfl
  | some t => simp⟩
theorem LnInv.fail {ls : List Tx} {i : Nat} {L : List PR} (h : LnInv ls i L) (hi : i < ls.length) (hq : lineR (spl 32 (ls.getD i [])) = none) : lnsR ls = none := by
  rw [h.is, drop_at hi, lns_cons, hq]
  rfl
theorem LnInv.fin {ls : List Tx} {i : Nat} {L : List PR} (h : LnInv ls i L) (hi : ¬ i < ls.length) : lnsR ls = some (L.map toPP) := by
  rw [h.is, drop_end hi]
  show some (L.map toPP ++ []) = _
  rw [List.append_nil]
def pr0 : PR := ⟨0, 0, 0, 0, 0, 0, 0, 0, 0, 0, 0, 0, 0, none, 0, 0, none, 0, 0, fun _ => ⟨0, 0, 0⟩, fun _ => 0⟩
def qF (L : List PR) (i : Nat) : PR := L.getD i pr0
def pC (L : List PR) : List Value := pCells (qF L) L.length
theorem pC_snoc (L : List PR) (q : PR) : pC (L ++ [q]) = pC L ++ q.cells := by
  unfold pC pCells
  rw [List.length_append, List.length_singleton, flatN]
  congr 1
  · refine flatN_congr _ fun i hi => ?_
    unfold qF
    rw [getD_front L q _ hi]
  · unfold qF
    rw [getD_snoc]
theorem pps_list (L : List PR) : ppsOf L.length (qF L) = L.map toPP := by
  unfold ppsOf qF
  rw [show (fun i => toPP (L.getD i pr0)) = toPP ∘ (fun i => L.getD i pr0) from rfl, ← List.map_map, range_map]
theorem qF_mem {L : List PR} {i : Nat} (hi : i < L.length) : qF L i ∈ L := by
  unfold qF
  rw [List.getD_eq_getElem?_getD, List.getElem?_eq_getElem hi]
  exact List.getElem_mem _
/-- a plane's rows are the call's own -/
def PMem (base : Nat) (W : World) (q : PR) : Prop := W.ownsRow base 71 3 (.slice q.da q.dn q.dc) q.dn (dCells q.ds q.dn) ∧ W.ownsRow base 3 1 (.slice q.ea q.en q.ec) q.en (iCells q.es q.en)
theorem own_max {w : World} {base : Nat} {e : TypeId} {k : Nat} {v : Value} {n : Nat} {xs : List Value} (h : w.ownsRow base e k v n xs) : n ≤ maxLen := by
  rcases h.2 with ⟨_, hn⟩ | ⟨g, cap, cur, _, _, _, hnc, hcm, _⟩
  · omega
  · omega
theorem PMem.mem {base : Nat} {W : World} {q : PR} (h : PMem base W q) : q.mem W.heap.size W := ⟨own_max h.1, own_max h.2, (own_drifts h.1).2, (own_ints h.2).2⟩
theorem PMem.below {base : Nat} {W W' : World} {q : PR} (h : PMem base W q) (hb : Below W.heap.size W W') : PMem base W' q := ⟨own_below h.1 hb, own_below h.2 hb⟩
theorem PMem.base {b1 b2 : Nat} {W : World} {q : PR} (h : PMem b1 W q) (hb : b2 ≤ b1) : PMem b2 W q := ⟨own_base h.1 hb, own_base h.2 hb⟩
theorem PMem.pop {base : Nat} {W : World} {q : PR} (h : PMem base W q) {cs : Array Value} {t : TypeId} {fz : Nat × Nat} {b : Nat} (hb : W.heap[b]? = some (.cells cs t fz)) (h1 : 71 ≠ t) (h2 : 3 ≠ t) (j : Nat) (u : Value) : PMem base (W.setCell ⟨b, j, none⟩ u) q := ⟨row_pop h.1 hb h1 j u, row_pop h.2 hb h2 j u⟩
theorem PMem.grown {base b2 : Nat} {W W' : World} {q : PR} (h : PMem base W q) {k : Nat} {v : Value} {n : Nat} {xs : List Value} (ho : W.ownsRow b2 42 k v n xs) (hg : W.grownBy W' v.ownBlock) : PMem base W' q := ⟨h.1.kept hg (own_ne h.1 ho (by decide)), h.2.kept hg (own_ne h.2 ho (by decide))⟩
structure PZ (w : World) (hb ob sb : Nat) (ls : List Tx) (L : List PR) (v : Value) (y : Bool) (W : World) : Prop where
  below : Below w.heap.size w W
  own : W.ownsRow w.heap.size 42 15 v L.length (pC L)
  mem : ∀ q ∈ L, PMem w.heap.size W q
  hbox : W.heap[hb]? = some (.cells #[v] 24)
  obox : W.heap[ob]? = some (.cells #[.bool y] 4)
  lines : W.heap[sb]? = some (wsObj ls)
section
variable {w W W' : World} {hb ob sb : Nat} {ls : List Tx} {L : List PR} {v : Value} {y : Bool}
theorem PZ.quiet (h : PZ w hb ob sb ls L v y W) (hl : Below W.heap.size W W') : PZ w hb ob sb ls L v y W' :=
  ⟨h.below.trans (hl.mono h.below.size), own_below h.own hl, fun q hq => (h.mem q hq).below hl, (hl.block _ (Array.getElem?_eq_some_iff.1 h.hbox).1).trans h.hbox, (hl.block _ (Array.getElem?_eq_some_iff.1 h.obox).1).trans h.obox, (hl.block _ (Array.getElem?_eq_some_iff.1 h.lines).1).trans h.lines⟩
theorem PZ.drew (h : PZ w hb ob sb ls L v y W) : PZ w hb ob sb ls L v y W.drew := h.quiet (Below.refl _ _).drew
/-- a plane more, not yet in the box -/
theorem PZ.app (h : PZ w hb ob sb ls L v y W) (h1 : w.heap.size ≤ hb) {q : PR} {v' : Value} (hq : PMem w.heap.size W q) (ho : W'.ownsRow w.heap.size 42 15 v' (L.length + 1) (pC L ++ q.cells)) (hg : W.grownBy W' v.ownBlock) :
    W'.heap[hb]? = some (.cells #[v] 24) ∧ PZ w hb ob sb ls (L ++ [q]) v' y (W'.setCell ⟨hb, 0, none⟩ v') := by
  have e1 : W'.heap[hb]? = some (.cells #[v] 24) := (hg.block _ (Array.getElem?_eq_some_iff.1 h.hbox).1 (Ne.symm (row_off h.own h.hbox (by decide)))).trans h.hbox
  have e2 : W'.heap[ob]? = some (.cells #[.bool y] 4) := (hg.block _ (Array.getElem?_eq_some_iff.1 h.obox).1 (Ne.symm (row_off h.own h.obox (by decide)))).trans h.obox
  have e3 : W'.heap[sb]? = some (wsObj ls) := (hg.block _ (Array.getElem?_eq_some_iff.1 h.lines).1 (Ne.symm (row_off h.own h.lines (by decide)))).trans h.lines
  have hm : ∀ p ∈ L ++ [q], PMem w.heap.size W' p := fun p hp => by
    rcases List.mem_append.1 hp with hp | hp
    · exact (h.mem p hp).grown h.own hg
    · obtain rfl := List.mem_singleton.1 hp
      exact hq.grown h.own hg
  refine ⟨e1, ?_, ?_, fun p hp => (hm p hp).pop e1 (by decide) (by decide) 0 v', set_same _ _ _ _ _ _ _ e1, (Below.heap_setCell _ _ _ _ (blk_ne e2 e1 (by decide))).trans e2, (Below.heap_setCell _ _ _ _ (blk_ne e3 e1 (by decide))).trans e3⟩
  · exact (h.below.grown hg h.below.size (fun g e => (h.own.lt g e).1)).setCell (p := ⟨hb, 0, none⟩) h1 v'
  · rw [pC_snoc, List.length_append, List.length_singleton]
    exact row_pop ho e1 (by decide) 0 v'
/-- the two results are stored -/
theorem PZ.fin (h : PZ w hb ob sb ls L v y W) (h1 : w.heap.size ≤ hb) (h2 : w.heap.size ≤ ob) (z : Bool) : PZ w hb ob sb ls L v z ((W.setCell ⟨hb, 0, none⟩ v).setCell ⟨ob, 0, none⟩ (.bool z)) := by
  have a1 : (W.setCell ⟨hb, 0, none⟩ v).heap[hb]? = some (.cells #[v] 24) := set_same _ _ _ _ _ _ _ h.hbox
  have a2 : (W.setCell ⟨hb, 0, none⟩ v).heap[ob]? = some (.cells #[.bool y] 4) := (Below.heap_setCell _ _ _ _ (blk_ne h.obox h.hbox (by decide))).trans h.obox
  have a3 : (W.setCell ⟨hb, 0, none⟩ v).heap[sb]? = some (wsObj ls) := (Below.heap_setCell _ _ _ _ (blk_ne h.lines h.hbox (by decide))).trans h.lines
  exact ⟨(h.below.setCell (p := ⟨hb, 0, none⟩) h1 v).setCell (p := ⟨ob, 0, none⟩) h2 _, row_pop (row_pop h.own h.hbox (by decide) 0 v) a2 (by decide) 0 _, fun q hq => ((h.mem q hq).pop h.hbox (by decide) (by decide) 0 v).pop a2 (by decide) (by decide) 0 _, (Below.heap_setCell _ _ _ _ (blk_ne a1 a2 (by decide))).trans a1, set_same _ _ _ _ _ _ _ a2, (Below.heap_setCell _ _ _ _ (blk_ne a3 a2 (by decide))).trans a3⟩
theorem PZ.planes {a : Option Addr} {c : Nat} (h : PZ w hb ob sb ls L (.slice a L.length c) y W) : Planes W.heap.size W a L.length (qF L) :=
  (own_planes h.own (own_max h.own) (fun i hi => (h.mem _ (qF_mem hi)).mem)).2
end
/-- planes whose rows are all a call's own -/
def OPl (base : Nat) (W : World) (a : Option Addr) (c : Nat) (L : List PR) : Prop := W.ownsRow base 42 15 (.slice a L.length c) L.length (pC L) ∧ ∀ q ∈ L, PMem base W q
theorem OPl.below {base : Nat} {W W' : World} {a : Option Addr} {c : Nat} {L : List PR} (h : OPl base W a c L) (hb : Below W.heap.size W W') : OPl base W' a c L := ⟨own_below h.1 hb, fun q hq => (h.2 q hq).below hb⟩
theorem OPl.base {b1 b2 : Nat} {W : World} {a : Option Addr} {c : Nat} {L : List PR} (h : OPl b1 W a c L) (hb : b2 ≤ b1) : OPl b2 W a c L := ⟨own_base h.1 hb, fun q hq => (h.2 q hq).base hb⟩
theorem OPl.pop {base : Nat} {W : World} {a : Option Addr} {c : Nat} {L : List PR} (h : OPl base W a c L) {cs : Array Value} {fz : Nat × Nat} {b : Nat} (hb : W.heap[b]? = some (.cells cs 24 fz)) (j : Nat) (u : Value) : OPl base (W.setCell ⟨b, j, none⟩ u) a c L := ⟨row_pop h.1 hb (by decide) j u, fun q hq => (h.2 q hq).pop hb (by decide) (by decide) j u⟩
theorem OPl.planes {base : Nat} {W : World} {a : Option Addr} {c : Nat} {L : List PR} (h : OPl base W a c L) : Planes W.heap.size W a L.length (qF L) := (own_planes h.1 (own_max h.1) (fun i hi => (h.2 _ (qF_mem hi)).mem)).2
/-- what plane.parse hands back -/
def ParRes (x : Tx) (w : World) (e : Ending) (w' : World) : Prop := Below w.heap.size w w' ∧ match filR x with
  | none => e = .returned (.tuple #[.agg #[.slice none 0 0], .bool false])
  | some pps => ∃ (a : Option Addr) (c : Nat) (L : List PR), L.map toPP = pps ∧ e = .returned (.tuple #[.agg #[.slice a L.length c], .bool true]) ∧ OPl w.heap.size w' a c L
theorem info_plane : (Tryz.prog.info? 42).map (fun i => (i.zero, i.size, i.bytes)) = some (some (.agg #[.int .i64 0, .int .i64 0, .int .i64 0, .int .i64 0, .int .i64 0, .int .i64 0, .int .i64 0, .int .i64 0, .int .i64 0, .int .i64 0, .int .i64 0, .int .i64 0, .int .i64 0, .slice none 0 0, .slice none 0 0]), 15, 152) := by kernel_rfl
theorem pv_one {q : PR} : ∀ u ∈ q.cells, u.oneCell' = true := by
  intro u hu
  simp [PR.cells] at hu
  rcases hu with rfl | rfl | rfl | rfl | rfl | rfl | rfl | rfl | rfl | rfl | rfl | rfl | rfl | rfl | rfl <;> rfl
/-- the deferred function where nothing went wrong -/
theorem pidle (p q : Addr) (w : World) : CallsD Tryz.prog 48 #[.pointer (some p), .pointer (some q)] .returning w fun e u' w' => e = .returned (.tuple #[]) ∧ u' = .returning ∧ w' = w := by
  refine callsD_of_wpS Tryz.func48 rfl fun c₀ cs hu => ?_
  apply wpS_seq
  apply wpS_region
  simp [wpOpsS, go_sem, recoverD, hu, Tryz.ntmps48, Exit.thenS]
  apply wpS_seq
  apply wpS_region
  simp [wpOpsS, go_sem, Exit.thenS, Array.replicate]
  refine wpS_cond (t := false) (by simp [Act.eval, Array.replicate]) ?_
  simp only [Bool.false_eq_true, if_false]
  refine wpS_of_wp (wp_skip ?_)
  cases c₀
  simp_all [bodyPostS, results, Tryz.results48]
set_option maxRecDepth 100000 in
set_option maxHeartbeats 1000000 in
/-- the deferred function where reading was given up -/
theorem pwrong (hb ob : Nat) (v : Value) (w : World) (hne : hb ≠ ob) (hh : w.heap[hb]? = some (.cells #[v] 24)) (ho : w.heap[ob]? = some (.cells #[.bool false] 4)) :
    CallsD Tryz.prog 48 #[.pointer (some ⟨hb, 0, none⟩), .pointer (some ⟨ob, 0, none⟩)] (.panicking wrP) w fun e u' w' => e = .returned (.tuple #[]) ∧ u' = .panicking [{ v := .iface 100 (.agg #[]), recovered := true }] ∧ w'.heap[hb]? = some (.cells #[.slice none 0 0] 24) ∧ w'.heap[ob]? = some (.cells #[.bool false] 4) ∧ (∀ B W, B ≤ hb → B ≤ ob → Below B W w → Below B W w') := by
  have c1 : w.cell? ⟨hb, 0, none⟩ = some v := cell_of_row _ _ _ _ _ _ hh
  have c2 : w.frozen? ⟨hb, 0, none⟩ = false := Lib.frozen_of_heap hh 0
  have c3 : w.cell? ⟨ob, 0, none⟩ = some (.bool false) := cell_of_row _ _ _ _ _ _ ho
  have c4 : w.frozen? ⟨ob, 0, none⟩ = false := Lib.frozen_of_heap ho 0
  have l1 : hb < w.heap.size := (Array.getElem?_eq_some_iff.1 hh).1
  have l2 : ob < w.heap.size := (Array.getElem?_eq_some_iff.1 ho).1
  have hta : ∀ w : World, (Instr.typeAssert (.iface 100 (.agg #[])) 20 100 true).run Tryz.prog w = .ok (.tuple #[.agg #[], .bool true]) w := fun _ => by kernel_rfl
  have hnot : ∀ (x : Bool) (w : World), (Op.unary .not (.bool x)).run Tryz.prog w = .ok (.bool (!x)) w := fun _ _ => rfl
  refine callsD_of_wpS Tryz.func48 rfl fun c₀ cs hu => ?_
  apply wpS_seq
  apply wpS_region
  simp [wpOpsS, go_sem, recoverD, hu, Tryz.ntmps48, Exit.thenS]
  apply wpS_seq
  apply wpS_region
  simp [wpOpsS, go_sem, Exit.thenS, Array.replicate]
  refine wpS_cond (t := true) (by simp [Act.eval]) ?_
  simp only [if_true]
  refine wpS_of_wp ?_
  go_wp2
  have g1 := (Below.heap_setCell (w.setCell ⟨hb, 0, none⟩ (.slice none 0 0)) ⟨ob, 0, none⟩ (.bool false) hb hne).trans (set_same w hb 0 _ _ _ (.slice none 0 0) hh)
  have g2 := set_same (w.setCell ⟨hb, 0, none⟩ (.slice none 0 0)) ob 0 _ _ _ (.bool false) ((Below.heap_setCell w ⟨hb, 0, none⟩ (.slice none 0 0) ob (Ne.symm hne)).trans ho)
  have g3 : ∀ o, (((w.setCell ⟨hb, 0, none⟩ (.slice none 0 0)).setCell ⟨ob, 0, none⟩ (.bool false)).alloc o).heap[hb]? = some (.cells #[.slice none 0 0] 24) := fun o => al_old g1
  have g4 : ∀ o, (((w.setCell ⟨hb, 0, none⟩ (.slice none 0 0)).setCell ⟨ob, 0, none⟩ (.bool false)).alloc o).heap[ob]? = some (.cells #[.bool false] 4) := fun o => al_old g2
  have g5 : ∀ o, (∀ (B : Nat) (W : World), B ≤ hb → B ≤ ob → Below B W w → Below B W (((w.setCell ⟨hb, 0, none⟩ (.slice none 0 0)).setCell ⟨ob, 0, none⟩ (.bool false)).alloc o)) := fun o B W h1 h2 h3 => ((h3.setCell (p := ⟨hb, 0, none⟩) h1 _).setCell (p := ⟨ob, 0, none⟩) h2 _).alloc (by simp; omega) o
  have G := And.intro (g3 (.cells #[] 100)) (And.intro (g4 (.cells #[] 100)) (g5 (.cells #[] 100)))
  clear g1 g2 g3 g4 g5 hta hnot c1 c2 c3 c4 hh ho
  generalize ((w.setCell ⟨hb, 0, none⟩ (.slice none 0 0)).setCell ⟨ob, 0, none⟩ (.bool false)).alloc (.cells #[] 100) = w9 at *
  have GH := Lib.hid G
  clear G
  simp [bodyPostS, results, Tryz.results48]
  exact GH.out
end Go.Proofs.YtegimepmccilfaaGreatDoor
namespace Go.Proofs.YtegimepmccilfaaGreatDoor
open Go.RowKit
set_option linter.unusedVariables false
set_option linter.unusedSimpArgs false
theorem pcs_any (x : Tx) (hx : x.length ≤ 100000) (w : World) : Calls Tryz.prog 49 #[.string ⟨x.toArray⟩, .string ⟨#[10]⟩] w fun e w' => e = .returned (.tuple #[.string ⟨(Lib.trimSuffix x [10]).toArray⟩, .bool (Lib.hasSuffix x [10])]) ∧ w' = w :=
  Tryz.strings_CutSuffix ⟨x.toArray⟩ ⟨#[10]⟩ w (by rw [pl_size]; omega)
theorem pcp_any (x : Tx) (w : World) : Calls Tryz.prog 51 #[.string ⟨x.toArray⟩, .string ⟨#[115, 101, 116, 117, 112, 32]⟩] w fun e w' => e = .returned (.tuple #[.string ⟨(Lib.trimPrefix x setupT).toArray⟩, .bool (Lib.hasPrefix x setupT)]) ∧ w' = w :=
  Tryz.strings_CutPrefix ⟨x.toArray⟩ ⟨#[115, 101, 116, 117, 112, 32]⟩ w
theorem trim_len (x c : Tx) : (Lib.trimSuffix x c).length ≤ x.length := by
  unfold Lib.trimSuffix
  split
  · rw [List.length_take]; omega
  · omega
theorem cut_len (x c : Tx) : (Lib.trimPrefix x c).length ≤ x.length := by
  unfold Lib.trimPrefix
  split
  · rw [List.length_drop]; omega
  · omega
theorem fil_no {x : Tx} (h : Lib.hasSuffix x [10] = false) : filR x = none := by
  unfold filR
  rw [h]
  rfl
theorem fil_yes {x : Tx} (h : Lib.hasSuffix x [10] = true) : filR x = headR (spl 10 (Lib.trimSuffix x [10])) := by
  unfold filR
  rw [if_pos h]
theorem three_alloc (w : World) (o0 o1 o2 : Obj) : (((w.alloc o0).alloc o1).alloc o2).heap[w.heap.size]? = some o0 ∧ (((w.alloc o0).alloc o1).alloc o2).heap[w.heap.size + 1]? = some o1 ∧ (((w.alloc o0).alloc o1).alloc o2).heap[w.heap.size + 1 + 1]? = some o2 ∧ Below w.heap.size w (((w.alloc o0).alloc o1).alloc o2) := by
  refine ⟨al_old (al_old (al_new _ _ _ rfl)), al_old (al_new _ _ _ (by rw [al_size])), al_new _ _ _ (by rw [al_size, al_size]), ?_⟩
  exact (((Below.refl _ _).alloc (by simp) _).alloc (by simp) _).alloc (by simp; omega) _
theorem plane_no {y : Tx} (hy : y.length ≤ 60000) (h : lineR (spl 32 y) = none) (w : World) (hm : HasMax w) : Calls Tryz.prog 53 #[.string ⟨y.toArray⟩] w fun e w' => e = .panicked wrP ∧ Below w.heap.size w w' :=
  (plane_any y hy w hm).mono fun e w' hr => by
    obtain ⟨hb, hr2⟩ := hr
    rw [h] at hr2
    exact ⟨hr2, hb⟩
theorem plane_yes {y : Tx} (hy : y.length ≤ 60000) {pp : PP} (h : lineR (spl 32 y) = some pp) (w : World) (hm : HasMax w) : Calls Tryz.prog 53 #[.string ⟨y.toArray⟩] w fun e w' => (∃ q : PR, e = .returned q.plane ∧ toPP q = pp ∧ PMem w.heap.size w' q) ∧ Below w.heap.size w w' :=
  (plane_any y hy w hm).mono fun e w' hr => by
    obtain ⟨hb, hr2⟩ := hr
    rw [h] at hr2
    obtain ⟨q, h1, h2, h3, h4⟩ := hr2
    exact ⟨⟨q, h1, h2, h3, h4⟩, hb⟩
theorem wp_nopanic {P : Program} {c : Code} {Q : Exit → Act → World → Prop} {a : Act} {w : World} (h : c.wp P (fun ex a w => (∀ p, ex ≠ .panic p) ∧ Q ex a w) a w) : c.wp P Q a w := Code.wp_mono (fun _ _ _ h => h.2) h
set_option maxRecDepth 100000 in
set_option maxHeartbeats 4000000 in
theorem parse_any (x : Tx) (hx : x.length ≤ 50000) (w : World) (hm : HasMax w) : Calls Tryz.prog 28 #[.string ⟨x.toArray⟩] w (ParRes x w) := by
  have hmf : ∀ (fn : Fn) (first cap : Array Value) (w : World), (Instr.makeFunc fn first cap).run Tryz.prog w = .ok (.func fn first cap) w := fun _ _ _ _ => rfl
  have HRN := Lib.hid (fun (e : Ending) (W' : World) (hb : Below w.heap.size w W') (hn : filR x = none) (he : e = .returned (.tuple #[.agg #[.slice none 0 0], .bool false])) => show ParRes x w e W' from ⟨hb, by rw [hn]; exact he⟩)
  have HRS := Lib.hid (fun (e : Ending) (W' : World) (a : Option Addr) (c : Nat) (L : List PR) (hb : Below w.heap.size w W') (hn : filR x = some (L.map toPP)) (he : e = .returned (.tuple #[.agg #[.slice a L.length c], .bool true])) (hp : OPl w.heap.size W' a c L) => show ParRes x w e W' from ⟨hb, by rw [hn]; exact ⟨a, c, L, rfl, he, hp⟩⟩)
  have HMX := Lib.hid (fun (W : World) (hb : Below w.heap.size w W) => hm.below hm.pos hb)
  generalize ParRes x w = RES at *
  have HCS := Lib.hid (fun W => pcs_any x (by omega) W)
  have HFN := Lib.hid (@fil_no x)
  have HFY := Lib.hid (@fil_yes x)
  have htl := trim_len x [10]
  generalize Lib.trimSuffix x [10] = tb at *
  generalize Lib.hasSuffix x [10] = en at *
  have HSP := Lib.hid (fun (W : World) (h : HasMax W) => psplit_any 10 tb (by omega) W h)
  have HWL := Lib.hid (fun (z : Tx) (hz : z ∈ spl 10 tb) => show z.length ≤ 60000 from Nat.le_trans (spl_wlen 10 tb _ hz) (by omega))
  have hwl : (spl 10 tb).length ≤ 60001 := Nat.le_trans (spl_llen 10 tb) (by omega)
  have hne : spl 10 tb ≠ [] := fun e => by
    have := spl_len 10 tb
    rw [e] at this
    simp at this
  generalize spl 10 tb = ls at *
  obtain ⟨h, r, rfl⟩ : ∃ h r, ls = h :: r := by
    cases ls with
    | nil => exact absurd rfl hne
    | cons h r => exact ⟨h, r, rfl⟩
  have HCP := Lib.hid (fun W => pcp_any h W)
  have hml := cut_len h setupT
  have hhl := HWL.out h (by simp)
  have HH0 := Lib.hid (@head_no h r)
  have HH1 := Lib.hid (@head_num h r)
  have HH2 := Lib.hid (fun n => @head_many h r n)
  have HH3 := Lib.hid (fun n => @head_yes h r n)
  generalize Lib.trimPrefix h setupT = mb at *
  generalize Lib.hasPrefix h setupT = ip at *
  clear hne htl hm
  have hN : w.heap.size ≠ w.heap.size + 1 := by omega
  have HAL := Lib.hid (show Below w.heap.size w ((w.alloc (.cells #[.slice none 0 0] 24)).alloc (.cells #[.bool false] 4)) from ((Below.refl _ _).alloc (Nat.le_refl _) _).alloc (by simp) _)
  go_enter_defers Tryz.func28, Tryz.ntmps28
  go_upto_region 4 with (first | (go_at_call 49; refine (HCS.out _).mono ?_; rintro e W1 ⟨rfl, rfl⟩) | (go_at_call 50; refine (HSP.out _ (HMX.out _ HAL.out)).mono ?_; rintro e W2 ⟨rfl, rfl⟩))
  have hA := three_alloc w (.cells #[.slice none 0 0] 24) (.cells #[.bool false] 4) (wsObj (h :: r))
  obtain ⟨sb, hsb⟩ : ∃ k, w.heap.size + 1 + 1 = k := ⟨_, rfl⟩
  obtain ⟨ob, hob⟩ : ∃ k, w.heap.size + 1 = k := ⟨_, rfl⟩
  rw [hsb, hob] at hA ⊢
  obtain ⟨a0, a1, a2, a3⟩ := hA
  generalize World.alloc (World.alloc (World.alloc w _) _) _ = W3 at *
  have HZ := Lib.hid (show PZ w w.heap.size ob sb (h :: r) [] nilV false W3 from ⟨a3, World.ownsRow_nil _ _ _ _, fun q hq => absurd hq List.not_mem_nil, a0, a1, a2⟩)
  have d0 : W3.cell? ⟨sb, 0, none⟩ = some (.string ⟨h.toArray⟩) := cell_of_row _ _ 0 _ _ _ a2
  have HOB := Lib.hid (show w.heap.size ≤ ob by omega)
  have hoh : w.heap.size ≠ ob := by omega
  have hho : ob ≠ w.heap.size := by omega
  clear a0 a1 a2 a3 HSP HCS HAL hsb hob hN
  go_upto_region 5 with (go_at_call 51; refine (HCP.out _).mono ?_; rintro e W4 ⟨rfl, rfl⟩)
  clear HCP
  by_cases he : en = true ∧ ip = true
  case neg =>
    have HN := Lib.hid (show filR x = none from by
      cases en with
      | false => exact HFN.out rfl
      | true =>
        cases ip with
        | false => rw [HFY.out rfl, HH0.out rfl]
        | true => exact absurd ⟨rfl, rfl⟩ he)
    have c1 : (W4).cell? ⟨w.heap.size, 0, none⟩ = some (.slice none 0 0) := cell_of_row _ _ 0 _ _ _ (HZ).out.hbox; have c2 : (W4).frozen? ⟨w.heap.size, 0, none⟩ = false := Lib.frozen_of_heap (HZ).out.hbox 0; have c3 : (W4).cell? ⟨ob, 0, none⟩ = some (.bool false) := cell_of_row _ _ 0 _ _ _ (HZ).out.obox; have c4 : (W4).frozen? ⟨ob, 0, none⟩ = false := Lib.frozen_of_heap (HZ).out.obox 0
    have HZF := Lib.hid (HZ.out.fin (Nat.le_refl _) HOB.out false)
    have hl : ((!en) = true) ∨ (en = true ∧ (!ip) = true) := by
      cases en <;> cases ip <;> simp_all
    clear HH0 HH1 HH2 HH3 HFN HFY HWL
    rcases hl with hl | ⟨hl, hl2⟩
    · obtain rfl : en = false := by simpa using hl
      go_wp2
      ((refine leaves_cons (f := 48) (args := #[.pointer (some ⟨w.heap.size, 0, none⟩), .pointer (some ⟨ob, 0, none⟩)]) (by simp) (by simp [go_sem]) ?_; refine (pidle _ _ _).mono ?_; rintro e u' w'' ⟨rfl, rfl, rfl⟩); have q1 := cell_of_row _ _ 0 _ _ _ HZF.out.hbox; have q2 := cell_of_row _ _ 0 _ _ _ HZF.out.obox; have q3 := HZF.out.below; simp [Leaves, settle, results, Tryz.results28, go_sem, q1, q2]; exact HRN.out _ _ q3 HN.out rfl)
    · obtain rfl : en = true := hl
      obtain rfl : ip = false := by simpa using hl2
      clear hl2
      go_wp2
      ((refine leaves_cons (f := 48) (args := #[.pointer (some ⟨w.heap.size, 0, none⟩), .pointer (some ⟨ob, 0, none⟩)]) (by simp) (by simp [go_sem]) ?_; refine (pidle _ _ _).mono ?_; rintro e u' w'' ⟨rfl, rfl, rfl⟩); have q1 := cell_of_row _ _ 0 _ _ _ HZF.out.hbox; have q2 := cell_of_row _ _ 0 _ _ _ HZF.out.obox; have q3 := HZF.out.below; simp [Leaves, settle, results, Tryz.results28, go_sem, q1, q2]; exact HRN.out _ _ q3 HN.out rfl)
  case pos =>
    obtain ⟨rfl, rfl⟩ := he
    cases hn : nmR mb with
    | none =>
      have HN := Lib.hid (show filR x = none by rw [HFY.out rfl, HH1.out rfl hn])
      have HY := Lib.hid (fun W => number_no (show mb.length ≤ 60000 by omega) hn W)
      clear hn HH0 HH1 HH2 HH3 HFN HFY HWL
      go_wp2_with (go_at_call 52; refine (HY.out _).mono ?_; rintro e W5 ⟨rfl, hb5⟩)
      have HZ5 := Lib.hid (HZ.out.quiet hb5)
      (refine leaves_cons (f := 48) (args := #[.pointer (some ⟨w.heap.size, 0, none⟩), .pointer (some ⟨ob, 0, none⟩)]) (by simp) (by simp [go_sem]) ?_; refine (pwrong w.heap.size ob _ _ hoh (HZ5).out.hbox (HZ5).out.obox).mono ?_; rintro e u' w'' ⟨rfl, rfl, hx1, hx2, hx3⟩; have hy1 := cell_of_row _ _ 0 _ _ _ hx1; have hy2 := cell_of_row _ _ 0 _ _ _ hx2; have hy3 := hx3 w.heap.size w (Nat.le_refl _) HOB.out (HZ5).out.below; clear hx1 hx2 hx3; simp [Leaves, settle, results, Tryz.results28, go_sem, hy1, hy2]; exact HRN.out _ _ hy3 HN.out rfl)
    | some n =>
    have HY := Lib.hid (fun W => number_yes (show mb.length ≤ 60000 by omega) hn W)
    have hwr : wrap64 (r.length : Int) = (r.length : Int) := by
      have : r.length ≤ 60000 := by simp at hwl; omega
      exact IntWalk.wrap64_in _ (by omega)
    by_cases hr : n = (r.length : Int)
    case neg =>
      have HN := Lib.hid (show filR x = none by rw [HFY.out rfl, HH2.out n rfl hn hr])
      clear hn HH0 HH1 HH2 HH3 HFN HFY HWL
      have hr' : (n != wrap64 (r.length : Int)) = true := by rw [hwr, bne_iff_ne]; exact hr
      have hr1 : (n != (r.length : Int)) = true := by rw [bne_iff_ne]; exact hr
      clear hr hwr
      go_upto_region 6 with (go_at_call 52; refine (HY.out _).mono ?_; rintro e W5 ⟨rfl, hb5⟩)
      have HZ5 := Lib.hid (HZ.out.quiet hb5)
      have c1 : (W5).cell? ⟨w.heap.size, 0, none⟩ = some (.slice none 0 0) := cell_of_row _ _ 0 _ _ _ (HZ5).out.hbox; have c2 : (W5).frozen? ⟨w.heap.size, 0, none⟩ = false := Lib.frozen_of_heap (HZ5).out.hbox 0; have c3 : (W5).cell? ⟨ob, 0, none⟩ = some (.bool false) := cell_of_row _ _ 0 _ _ _ (HZ5).out.obox; have c4 : (W5).frozen? ⟨ob, 0, none⟩ = false := Lib.frozen_of_heap (HZ5).out.obox 0
      have HZF := Lib.hid (HZ5.out.fin (Nat.le_refl _) HOB.out false)
      go_wp2
      ((refine leaves_cons (f := 48) (args := #[.pointer (some ⟨w.heap.size, 0, none⟩), .pointer (some ⟨ob, 0, none⟩)]) (by simp) (by simp [go_sem]) ?_; refine (pidle _ _ _).mono ?_; rintro e u' w'' ⟨rfl, rfl, rfl⟩); have q1 := cell_of_row _ _ 0 _ _ _ HZF.out.hbox; have q2 := cell_of_row _ _ 0 _ _ _ HZF.out.obox; have q3 := HZF.out.below; simp [Leaves, settle, results, Tryz.results28, go_sem, q1, q2]; exact HRN.out _ _ q3 HN.out rfl)
    case pos =>
      have HH := Lib.hid (show filR x = lnsR r by rw [HFY.out rfl, HH3.out n rfl hn hr])
      clear hn HH0 HH1 HH2 HH3 HFN HFY
      have hr' : (n != wrap64 (r.length : Int)) = false := by rw [hwr, hr]; simp
      have hrl : r.length ≤ 60000 := by simp at hwl; omega
      have h1 : (1 : Int) ≤ ((r.length + 1 : Nat) : Int) := by omega
      have h2 : r.length + 1 - 1 = r.length := by omega
      have hr1 : (n != (r.length : Int)) = false := by rw [hr]; simp
      clear hr hwr
      go_upto_region 7 with (go_at_call 52; refine (HY.out _).mono ?_; rintro e W5 ⟨rfl, hb5⟩)
      clear HY
      have HZ5 := Lib.hid (HZ.out.quiet hb5)
      clear HZ hb5 d0
      go_cut [41, 42, 43] from 40 to 43 (fun s41 s42 s43 wx => ∃ o, s41 = .slice (some ⟨sb, o, none⟩) r.length r.length ∧ (0 < r.length → o = 1) ∧ s42 = .int .i64 (r.length : Int) ∧ s43 = .int .i64 0 ∧ wx = W5)
      case first =>
        cases r with
        | nil =>
          go_wp2
          go_meet
          exact ⟨_, rfl, fun h => absurd h (by simp), rfl, rfl, rfl⟩
        | cons z r =>
          have hne1 : ¬ (z :: r).length = 0 := by simp
          generalize hrr : (z :: r).length = m at *
          have hne2 : ¬ m + 1 - 1 = 0 := by omega
          go_wp2
          go_meet
          exact ⟨_, rfl, fun h => rfl, rfl, rfl, rfl⟩
      case rest =>
        obtain ⟨o, rfl, ho, rfl, rfl, rfl⟩ := hcut
        have HO := Lib.hid ho
        clear ho hr' hr1 h1 h2
        go_wp2
        go_loopw [9, 43] (fun s9 s43 wr => ∃ (i : Nat) (L : List PR) (v : Value), i ≤ r.length ∧ s43 = .int .i64 (i : Int) ∧ Hid (LnInv r i L) ∧ Hid (PZ w w.heap.size ob sb (h :: r) L v false wr)) (fun _ s43 _ => r.length - (intOf s43).toNat)
        case atStart => exact ⟨0, [], nilV, Nat.zero_le _, rfl, Lib.hid (LnInv.start _), HZ5⟩
        case round =>
          clear HZ5
          obtain ⟨i, L, v, hi, rfl, HI, HZ⟩ := hrel
          obtain ⟨a, c, rfl⟩ := own_len HZ.out.own
          by_cases hil : i < r.length
          case neg =>
            obtain rfl : i = r.length := by omega
            have hil' : ¬ (r.length : Int) < (r.length : Int) := by omega
            have HE := Lib.hid (show filR x = some (L.map toPP) by rw [HH.out, HI.out.fin hil])
            clear hil hi HI
            have c1 : (wr).cell? ⟨w.heap.size, 0, none⟩ = some (.slice a L.length c) := cell_of_row _ _ 0 _ _ _ (HZ).out.hbox; have c2 : (wr).frozen? ⟨w.heap.size, 0, none⟩ = false := Lib.frozen_of_heap (HZ).out.hbox 0; have c3 : (wr).cell? ⟨ob, 0, none⟩ = some (.bool false) := cell_of_row _ _ 0 _ _ _ (HZ).out.obox; have c4 : (wr).frozen? ⟨ob, 0, none⟩ = false := Lib.frozen_of_heap (HZ).out.obox 0
            have HZF := Lib.hid (HZ.out.fin (Nat.le_refl _) HOB.out true)
            go_wp2
            (refine leaves_cons (f := 48) (args := #[.pointer (some ⟨w.heap.size, 0, none⟩), .pointer (some ⟨ob, 0, none⟩)]) (by simp) (by simp [go_sem]) ?_; refine (pidle _ _ _).mono ?_; rintro e u' w'' ⟨rfl, rfl, rfl⟩)
            have q1 := cell_of_row _ _ 0 _ _ _ HZF.out.hbox
            have q2 := cell_of_row _ _ 0 _ _ _ HZF.out.obox
            have q3 := HZF.out.below
            have HP := Lib.hid (show OPl w.heap.size _ a c L from ⟨HZF.out.own, HZF.out.mem⟩)
            simp [Leaves, settle, results, Tryz.results28, go_sem, q1, q2]
            exact HRS.out _ _ a c L q3 HE.out rfl HP.out
          case pos =>
            have hil' : (i : Int) < (r.length : Int) := by omega
            obtain rfl := HO.out (by omega)
            have d1 : wr.cell? ⟨sb, 1 + i, none⟩ = some (.string ⟨(r.getD i []).toArray⟩) := by
              rw [cell_of_row _ _ _ _ _ _ HZ.out.lines]
              rw [List.getD_eq_getElem?_getD, List.getElem?_eq_getElem hil, Nat.add_comm]
              simp [hil]
            have hyl : (r.getD i []).length ≤ 60000 := by
              rw [List.getD_eq_getElem?_getD, List.getElem?_eq_getElem hil]
              exact HWL.out _ (List.mem_cons_of_mem _ (List.getElem_mem _))
            have HF := Lib.hid (fun (hq : lineR (spl 32 (r.getD i [])) = none) => show filR x = none by rw [HH.out, HI.out.fail hil hq])
            have HS := Lib.hid (fun (q : PR) (hq : lineR (spl 32 (r.getD i [])) = some (toPP q)) => HI.out.step hil hq)
            have HLL := Lib.hid (show L.length ≤ 60000 by have := HI.out.len; omega)
            have hm1 : r.length - (i + 1) < r.length - i := by omega
            have HM1 := Lib.hid hm1
            clear hi HI hm1
            generalize r.getD i [] = y at *
            go_upto_region 10 with (fail)
            cases hl : lineR (spl 32 y) with
            | none =>
              have HN := Lib.hid (HF.out hl)
              have HY := Lib.hid (fun W hm => plane_no hyl hl W hm)
              clear hl hyl HF HS
              refine wp_region_any (by kernel_rfl) ?_
              change wpAny _ _ _ _ _ _ _ (World.drew wr)
              have HZ3 := Lib.hid HZ.out.drew
              clear HZ d1
              generalize World.drew wr = W0 at *
              have k0 : W0.cell? ⟨w.heap.size, 0, none⟩ = some (.slice a L.length c) := cell_of_row _ _ 0 _ _ _ HZ3.out.hbox
              have HQ0 := Lib.hid (show (fun w' => w' = W0) W0 from rfl)
              refine any_of_tail 6 6 (fun w' => w' = W0) (by kernel_rfl) rfl (fun hS => ?_)
              clear hS
              refine headH_all (rs := [0, 2]) (by kernel_rfl) (by simp) (by kernel_rfl) ?_; intro i0 hi0; simp only [List.mem_cons, List.not_mem_nil, or_false] at hi0
              rcases hi0 with rfl | rfl
              · (refine headH_op rfl (fun K hK => ?_); (try simp only [List.getElem_toArray, List.getElem_cons_zero, List.getElem_cons_succ]); go_simp; refine hK.out _ _ rfl (fun hS => ?_); clear hK K hS; (try simp only [List.getElem_toArray, List.getElem_cons_zero, List.getElem_cons_succ]); (try dsimp only [Act.put]); (try simp only [List.setIfInBounds_toArray, List.set_cons_zero, List.set_cons_succ]))
                refine headH_all (rs := [1, 2]) (by kernel_rfl) (by simp) (by kernel_rfl) ?_; intro i0 hi0; simp only [List.mem_cons, List.not_mem_nil, or_false] at hi0
                rcases hi0 with rfl | rfl
                · (refine headH_op rfl (fun K hK => ?_); (try simp only [List.getElem_toArray, List.getElem_cons_zero, List.getElem_cons_succ]); go_simp; refine hK.out _ _ rfl (fun hS => ?_); clear hK K hS; (try simp only [List.getElem_toArray, List.getElem_cons_zero, List.getElem_cons_succ]); (try dsimp only [Act.put]); (try simp only [List.setIfInBounds_toArray, List.set_cons_zero, List.set_cons_succ]))
                  refine headH_all (rs := [2]) (by kernel_rfl) (by simp) (by kernel_rfl) ?_; intro i0 hi0; simp only [List.mem_cons, List.not_mem_nil, or_false] at hi0; subst hi0
                  (refine headH_op rfl (fun K hK => ?_); (try simp only [List.getElem_toArray, List.getElem_cons_zero, List.getElem_cons_succ]); go_simp; refine hK.out _ _ rfl (fun hS => ?_); clear hK K hS; (try simp only [List.getElem_toArray, List.getElem_cons_zero, List.getElem_cons_succ]); (try dsimp only [Act.put]); (try simp only [List.setIfInBounds_toArray, List.set_cons_zero, List.set_cons_succ]))
                  refine headH_all (rs := [3]) (by kernel_rfl) (by simp) (by kernel_rfl) ?_; intro i0 hi0; simp only [List.mem_cons, List.not_mem_nil, or_false] at hi0; subst hi0
                  (refine headH_op rfl (fun K hK => ?_); (try simp only [List.getElem_toArray, List.getElem_cons_zero, List.getElem_cons_succ]); go_simp; refine (HY.out _ (HMX.out _ HZ3.out.below)).mono ?_; rintro e W1 ⟨rfl, hb⟩; dsimp only; have HZ5 := Lib.hid (HZ3.out.quiet hb); clear hK K; go_wp2; (refine leaves_cons (f := 48) (args := #[.pointer (some ⟨w.heap.size, 0, none⟩), .pointer (some ⟨ob, 0, none⟩)]) (by simp) (by simp [go_sem]) ?_; refine (pwrong w.heap.size ob _ _ hoh (HZ5).out.hbox (HZ5).out.obox).mono ?_; rintro e u' w'' ⟨rfl, rfl, hx1, hx2, hx3⟩; have hy1 := cell_of_row _ _ 0 _ _ _ hx1; have hy2 := cell_of_row _ _ 0 _ _ _ hx2; have hy3 := hx3 w.heap.size w (Nat.le_refl _) HOB.out (HZ5).out.below; clear hx1 hx2 hx3; simp [Leaves, settle, results, Tryz.results28, go_sem, hy1, hy2]; exact HRN.out _ _ hy3 HN.out rfl))
                · (refine headH_op rfl (fun K hK => ?_); (try simp only [List.getElem_toArray, List.getElem_cons_zero, List.getElem_cons_succ]); go_simp; refine hK.out _ _ rfl (fun hS => ?_); clear hK K hS; (try simp only [List.getElem_toArray, List.getElem_cons_zero, List.getElem_cons_succ]); (try dsimp only [Act.put]); (try simp only [List.setIfInBounds_toArray, List.set_cons_zero, List.set_cons_succ]))
                  refine headH_all (rs := [1, 3]) (by kernel_rfl) (by simp) (by kernel_rfl) ?_; intro i0 hi0; simp only [List.mem_cons, List.not_mem_nil, or_false] at hi0
                  rcases hi0 with rfl | rfl
                  · (refine headH_op rfl (fun K hK => ?_); (try simp only [List.getElem_toArray, List.getElem_cons_zero, List.getElem_cons_succ]); go_simp; refine hK.out _ _ rfl (fun hS => ?_); clear hK K hS; (try simp only [List.getElem_toArray, List.getElem_cons_zero, List.getElem_cons_succ]); (try dsimp only [Act.put]); (try simp only [List.setIfInBounds_toArray, List.set_cons_zero, List.set_cons_succ]))
                    refine headH_all (rs := [3]) (by kernel_rfl) (by simp) (by kernel_rfl) ?_; intro i0 hi0; simp only [List.mem_cons, List.not_mem_nil, or_false] at hi0; subst hi0
                    (refine headH_op rfl (fun K hK => ?_); (try simp only [List.getElem_toArray, List.getElem_cons_zero, List.getElem_cons_succ]); go_simp; refine (HY.out _ (HMX.out _ HZ3.out.below)).mono ?_; rintro e W1 ⟨rfl, hb⟩; dsimp only; have HZ5 := Lib.hid (HZ3.out.quiet hb); clear hK K; go_wp2; (refine leaves_cons (f := 48) (args := #[.pointer (some ⟨w.heap.size, 0, none⟩), .pointer (some ⟨ob, 0, none⟩)]) (by simp) (by simp [go_sem]) ?_; refine (pwrong w.heap.size ob _ _ hoh (HZ5).out.hbox (HZ5).out.obox).mono ?_; rintro e u' w'' ⟨rfl, rfl, hx1, hx2, hx3⟩; have hy1 := cell_of_row _ _ 0 _ _ _ hx1; have hy2 := cell_of_row _ _ 0 _ _ _ hx2; have hy3 := hx3 w.heap.size w (Nat.le_refl _) HOB.out (HZ5).out.below; clear hx1 hx2 hx3; simp [Leaves, settle, results, Tryz.results28, go_sem, hy1, hy2]; exact HRN.out _ _ hy3 HN.out rfl))
                  · (refine headH_op rfl (fun K hK => ?_); (try simp only [List.getElem_toArray, List.getElem_cons_zero, List.getElem_cons_succ]); go_simp; refine (HY.out _ (HMX.out _ HZ3.out.below)).mono ?_; rintro e W1 ⟨rfl, hb⟩; dsimp only; have HZ5 := Lib.hid (HZ3.out.quiet hb); clear hK K; go_wp2; (refine leaves_cons (f := 48) (args := #[.pointer (some ⟨w.heap.size, 0, none⟩), .pointer (some ⟨ob, 0, none⟩)]) (by simp) (by simp [go_sem]) ?_; refine (pwrong w.heap.size ob _ _ hoh (HZ5).out.hbox (HZ5).out.obox).mono ?_; rintro e u' w'' ⟨rfl, rfl, hx1, hx2, hx3⟩; have hy1 := cell_of_row _ _ 0 _ _ _ hx1; have hy2 := cell_of_row _ _ 0 _ _ _ hx2; have hy3 := hx3 w.heap.size w (Nat.le_refl _) HOB.out (HZ5).out.below; clear hx1 hx2 hx3; simp [Leaves, settle, results, Tryz.results28, go_sem, hy1, hy2]; exact HRN.out _ _ hy3 HN.out rfl))
              · (refine headH_op rfl (fun K hK => ?_); (try simp only [List.getElem_toArray, List.getElem_cons_zero, List.getElem_cons_succ]); go_simp; refine hK.out _ _ rfl (fun hS => ?_); clear hK K hS; (try simp only [List.getElem_toArray, List.getElem_cons_zero, List.getElem_cons_succ]); (try dsimp only [Act.put]); (try simp only [List.setIfInBounds_toArray, List.set_cons_zero, List.set_cons_succ]))
                refine headH_all (rs := [0, 3]) (by kernel_rfl) (by simp) (by kernel_rfl) ?_; intro i0 hi0; simp only [List.mem_cons, List.not_mem_nil, or_false] at hi0
                rcases hi0 with rfl | rfl
                · (refine headH_op rfl (fun K hK => ?_); (try simp only [List.getElem_toArray, List.getElem_cons_zero, List.getElem_cons_succ]); go_simp; refine hK.out _ _ rfl (fun hS => ?_); clear hK K hS; (try simp only [List.getElem_toArray, List.getElem_cons_zero, List.getElem_cons_succ]); (try dsimp only [Act.put]); (try simp only [List.setIfInBounds_toArray, List.set_cons_zero, List.set_cons_succ]))
                  refine headH_all (rs := [1, 3]) (by kernel_rfl) (by simp) (by kernel_rfl) ?_; intro i0 hi0; simp only [List.mem_cons, List.not_mem_nil, or_false] at hi0
                  rcases hi0 with rfl | rfl
                  · (refine headH_op rfl (fun K hK => ?_); (try simp only [List.getElem_toArray, List.getElem_cons_zero, List.getElem_cons_succ]); go_simp; refine hK.out _ _ rfl (fun hS => ?_); clear hK K hS; (try simp only [List.getElem_toArray, List.getElem_cons_zero, List.getElem_cons_succ]); (try dsimp only [Act.put]); (try simp only [List.setIfInBounds_toArray, List.set_cons_zero, List.set_cons_succ]))
                    refine headH_all (rs := [3]) (by kernel_rfl) (by simp) (by kernel_rfl) ?_; intro i0 hi0; simp only [List.mem_cons, List.not_mem_nil, or_false] at hi0; subst hi0
                    (refine headH_op rfl (fun K hK => ?_); (try simp only [List.getElem_toArray, List.getElem_cons_zero, List.getElem_cons_succ]); go_simp; refine (HY.out _ (HMX.out _ HZ3.out.below)).mono ?_; rintro e W1 ⟨rfl, hb⟩; dsimp only; have HZ5 := Lib.hid (HZ3.out.quiet hb); clear hK K; go_wp2; (refine leaves_cons (f := 48) (args := #[.pointer (some ⟨w.heap.size, 0, none⟩), .pointer (some ⟨ob, 0, none⟩)]) (by simp) (by simp [go_sem]) ?_; refine (pwrong w.heap.size ob _ _ hoh (HZ5).out.hbox (HZ5).out.obox).mono ?_; rintro e u' w'' ⟨rfl, rfl, hx1, hx2, hx3⟩; have hy1 := cell_of_row _ _ 0 _ _ _ hx1; have hy2 := cell_of_row _ _ 0 _ _ _ hx2; have hy3 := hx3 w.heap.size w (Nat.le_refl _) HOB.out (HZ5).out.below; clear hx1 hx2 hx3; simp [Leaves, settle, results, Tryz.results28, go_sem, hy1, hy2]; exact HRN.out _ _ hy3 HN.out rfl))
                  · (refine headH_op rfl (fun K hK => ?_); (try simp only [List.getElem_toArray, List.getElem_cons_zero, List.getElem_cons_succ]); go_simp; refine (HY.out _ (HMX.out _ HZ3.out.below)).mono ?_; rintro e W1 ⟨rfl, hb⟩; dsimp only; have HZ5 := Lib.hid (HZ3.out.quiet hb); clear hK K; go_wp2; (refine leaves_cons (f := 48) (args := #[.pointer (some ⟨w.heap.size, 0, none⟩), .pointer (some ⟨ob, 0, none⟩)]) (by simp) (by simp [go_sem]) ?_; refine (pwrong w.heap.size ob _ _ hoh (HZ5).out.hbox (HZ5).out.obox).mono ?_; rintro e u' w'' ⟨rfl, rfl, hx1, hx2, hx3⟩; have hy1 := cell_of_row _ _ 0 _ _ _ hx1; have hy2 := cell_of_row _ _ 0 _ _ _ hx2; have hy3 := hx3 w.heap.size w (Nat.le_refl _) HOB.out (HZ5).out.below; clear hx1 hx2 hx3; simp [Leaves, settle, results, Tryz.results28, go_sem, hy1, hy2]; exact HRN.out _ _ hy3 HN.out rfl))
                · (refine headH_op rfl (fun K hK => ?_); (try simp only [List.getElem_toArray, List.getElem_cons_zero, List.getElem_cons_succ]); go_simp; refine (HY.out _ (HMX.out _ HZ3.out.below)).mono ?_; rintro e W1 ⟨rfl, hb⟩; dsimp only; have HZ5 := Lib.hid (HZ3.out.quiet hb); clear hK K; go_wp2; (refine leaves_cons (f := 48) (args := #[.pointer (some ⟨w.heap.size, 0, none⟩), .pointer (some ⟨ob, 0, none⟩)]) (by simp) (by simp [go_sem]) ?_; refine (pwrong w.heap.size ob _ _ hoh (HZ5).out.hbox (HZ5).out.obox).mono ?_; rintro e u' w'' ⟨rfl, rfl, hx1, hx2, hx3⟩; have hy1 := cell_of_row _ _ 0 _ _ _ hx1; have hy2 := cell_of_row _ _ 0 _ _ _ hx2; have hy3 := hx3 w.heap.size w (Nat.le_refl _) HOB.out (HZ5).out.below; clear hx1 hx2 hx3; simp [Leaves, settle, results, Tryz.results28, go_sem, hy1, hy2]; exact HRN.out _ _ hy3 HN.out rfl))
            | some pp =>
              have HY := Lib.hid (fun W hm => plane_yes hyl hl W hm)
              have HS2 := Lib.hid (fun (q : PR) (hq : toPP q = pp) => HS.out q (by rw [hl, hq]))
              clear hl hyl HF HS
              obtain ⟨j0, hj0, hz0, hz1, hz2⟩ := info_parts info_plane
              have hb63 : L.length + 1 ≤ maxLen := by have := HLL.out; unfold maxLen; omega
              have hb47 : (L.length + 1) * 152 ≤ 140737488355328 := by have := HLL.out; omega
              (refine wp_nopanic ?_; refine wp_region_any (by kernel_rfl) ?_; change wpAny _ _ _ _ _ _ _ (World.drew wr); have HZ3 := Lib.hid HZ.out.drew; clear HZ d1; generalize World.drew wr = W0 at *; refine any_of_tail 6 6 (fun w' => w'.heap[w.heap.size]? = some (.cells #[.slice a L.length c] 24)) (by kernel_rfl) HZ3.out.hbox (fun hS => ?_); refine headH_take (i := 0) (v := ?_) rfl (by kernel_rfl) (fun c _ _ h => absurd rfl (h.1 c)) (Or.inl ⟨by rfl, ?_⟩) (by assumption) ?_; rotate_left; (· intro w' hSw; have k0 := (cell_of_row _ _ 0 _ _ _ hSw).trans (show _ = some (Value.slice a L.length c) from rfl); clear hSw; (try simp only [List.getElem_toArray, List.getElem_cons_zero, List.getElem_cons_succ]); go_simp; (try with_reducible rfl)); (try simp only [List.getElem_toArray, List.getElem_cons_zero, List.getElem_cons_succ]); (try dsimp only [Act.put]); (try simp only [List.setIfInBounds_toArray, List.set_cons_zero, List.set_cons_succ]); refine headH_take (i := 1) (v := ?_) rfl (by kernel_rfl) (fun c _ _ h => absurd rfl (h.1 c)) (Or.inl ⟨by rfl, ?_⟩) (by assumption) ?_; rotate_left; (· intro w' hSw; have k0 := (cell_of_row _ _ 0 _ _ _ hSw).trans (show _ = some (Value.slice a L.length c) from rfl); clear hSw; (try simp only [List.getElem_toArray, List.getElem_cons_zero, List.getElem_cons_succ]); go_simp; (try with_reducible rfl)); (try simp only [List.getElem_toArray, List.getElem_cons_zero, List.getElem_cons_succ]); (try dsimp only [Act.put]); (try simp only [List.setIfInBounds_toArray, List.set_cons_zero, List.set_cons_succ]); refine headH_take (i := 2) (v := ?_) rfl (by kernel_rfl) (fun c _ _ h => absurd rfl (h.1 c)) (Or.inl ⟨by rfl, ?_⟩) (by assumption) ?_; rotate_left; (· intro w' hSw; have k0 := (cell_of_row _ _ 0 _ _ _ hSw).trans (show _ = some (Value.slice a L.length c) from rfl); clear hSw; (try simp only [List.getElem_toArray, List.getElem_cons_zero, List.getElem_cons_succ]); go_simp; (try with_reducible rfl)); (try simp only [List.getElem_toArray, List.getElem_cons_zero, List.getElem_cons_succ]); (try dsimp only [Act.put]); (try simp only [List.setIfInBounds_toArray, List.set_cons_zero, List.set_cons_succ]))
              refine headH_all (rs := [3]) (by kernel_rfl) (by simp) (by kernel_rfl) ?_; intro i0 hi0; simp only [List.mem_cons, List.not_mem_nil, or_false] at hi0; subst hi0
              (refine headH_op rfl (fun K hK => ?_); (try simp only [List.getElem_toArray, List.getElem_cons_zero, List.getElem_cons_succ]); go_simp)
              refine (HY.out _ (HMX.out _ HZ3.out.below)).mono ?_
              rintro e W1 ⟨⟨q, rfl, hq, hqm⟩, hb⟩
              dsimp only
              have HI2 := Lib.hid (HS2.out q hq)
              have HQ1 := Lib.hid (hqm.base HZ3.out.below.size)
              have HZ4 := Lib.hid (HZ3.out.quiet hb)
              clear HZ3 hb hq hqm
              (refine hK.out _ _ HZ4.out.hbox (fun hS => ?_); clear hK K; (try simp only [List.getElem_toArray, List.getElem_cons_zero, List.getElem_cons_succ]); (try dsimp only [Act.put]); (try simp only [List.setIfInBounds_toArray, List.set_cons_zero, List.set_cons_succ]))
              refine headH_all (rs := [4]) (by kernel_rfl) (by simp) (by kernel_rfl) ?_; intro i0 hi0; simp only [List.mem_cons, List.not_mem_nil, or_false] at hi0; subst hi0
              (refine headH_op rfl (fun K hK => ?_); (try simp only [List.getElem_toArray, List.getElem_cons_zero, List.getElem_cons_succ]); go_simp)
              have HNW := Lib.hid (al_new W1 (.cells q.cells.toArray 42) _ rfl)
              have HZ5 := Lib.hid (HZ4.out.quiet (rd_below W1 (.cells q.cells.toArray 42)))
              have HQ2 := Lib.hid (HQ1.out.below (rd_below W1 (.cells q.cells.toArray 42)))
              clear HZ4 HQ1
              change K _ (World.alloc W1 (.cells q.cells.toArray 42))
              generalize World.alloc W1 _ = W4 at *
              generalize W1.heap.size = nwb at *
              (refine hK.out _ _ HZ5.out.hbox (fun hS => ?_); clear hK K; (try simp only [List.getElem_toArray, List.getElem_cons_zero, List.getElem_cons_succ]); (try dsimp only [Act.put]); (try simp only [List.setIfInBounds_toArray, List.set_cons_zero, List.set_cons_succ]))
              refine headH_all (rs := [5]) (by kernel_rfl) (by simp) (by kernel_rfl) ?_; intro i0 hi0; simp only [List.mem_cons, List.not_mem_nil, or_false] at hi0; subst hi0
              refine headH_op rfl (fun K hK => ?_)
              refine step_append_lies _ rfl _ _ 22 rfl w.heap.size 42 j0 _ 15 152 Tryz.underlying22 hj0 hz0 hz1 hz2 rfl (by decide) (.slice a L.length c) L.length (pC L) rfl HZ5.out.own ⟨nwb, 0, none⟩ 1 1 q.cells rfl rfl (World.news_of_block HNW.out) pv_one (by decide) hb63 hb47 HZ5.out.below.size _ rfl ?_
              intro g7 p7 W5 hown hgrow hat hlt
              obtain ⟨e1, e2⟩ := HZ5.out.app (Nat.le_refl _) HQ2.out hown hgrow
              have HZ6 := Lib.hid e2
              refine hK.out _ _ e1 (fun hS => ?_)
              clear hK K hgrow hat hlt hS hown e2 HZ5 HQ2 HNW
              (try simp only [List.getElem_toArray, List.getElem_cons_zero, List.getElem_cons_succ]); (try dsimp only [Act.put]); (try simp only [List.setIfInBounds_toArray, List.set_cons_zero, List.set_cons_succ])
              change tailL _ _ _ _ _ _ _ _
              refine ⟨by kernel_rfl, ?_⟩
              simp only [List.drop_succ_cons, List.drop_zero]
              have y0 : W5.cell? ⟨w.heap.size, 0, none⟩ = some (.slice a L.length c) := cell_of_row _ _ 0 _ _ _ e1
              have y1 : W5.frozen? ⟨w.heap.size, 0, none⟩ = false := Lib.frozen_of_heap e1 0
              clear e1
              go_wp2_with fail
              refine ⟨⟨i + 1, L ++ [q], _, by omega, by go_num, HI2, HZ6⟩, ?_⟩
              simp only [intOf]
              omega
end Go.Proofs.YtegimepmccilfaaGreatDoor
namespace Go.Proofs.YtegimepmccilfaaGreatDoor
open Go.RowKit
set_option linter.unusedVariables false
set_option linter.unusedSimpArgs false
theorem size_setup : (Tryz.prog.info? 24).map (·.size) = some 1 := by kernel_rfl
/-- what plane.Read hands back -/
def RdRes (x : Tx) (w : World) (e : Ending) (w' : World) : Prop := Below w.heap.size w w' ∧
  ((50000 < x.length ∧ e = .returned (.tuple #[.agg #[.slice none 0 0], .int .i64 3])) ∨
   (x.length ≤ 50000 ∧ filR x = none ∧ e = .returned (.tuple #[.agg #[.slice none 0 0], .int .i64 4])) ∨
   (x.length ≤ 50000 ∧ ∃ (a : Option Addr) (c : Nat) (L : List PR), filR x = some (L.map toPP) ∧
     ((checkB L.length (qF L) = false ∧ e = .returned (.tuple #[.agg #[.slice none 0 0], .int .i64 2])) ∨
      (checkB L.length (qF L) = true ∧ e = .returned (.tuple #[.agg #[.slice a L.length c], .int .i64 0]) ∧ OPl w.heap.size w' a c L))))
theorem rd_range {w : World} {g : Nat} {v : Value} {t : TypeId} {fz : Nat × Nat} (h : w.heap[g]? = some (.cells #[v] t fz)) : w.rangeAt g 0 [v] := by
  intro j u hu
  rw [Nat.zero_add]
  match j, hu with
  | 0, hu =>
    simp at hu
    subst hu
    exact cell_of_row _ _ 0 _ _ _ h
  | k + 1, hu => simp at hu
set_option maxRecDepth 100000 in
set_option maxHeartbeats 1000000 in
theorem plRead_any (x : Tx) (hx : x.length ≤ maxLen) (w : World) (hm : HasMax w) : Calls Tryz.prog 10 #[.string ⟨x.toArray⟩] w (RdRes x w) := by
  unfold maxLen at hx
  have hsz : (⟨x.toArray⟩ : ByteArray).size = x.length := pl_size x
  by_cases hl : 50000 < x.length
  · have HR := Lib.hid (fun (e : Ending) (W' : World) (hb : Below w.heap.size w W') (he : e = .returned (.tuple #[.agg #[.slice none 0 0], .int .i64 3])) => show RdRes x w e W' from ⟨hb, .inl ⟨hl, he⟩⟩)
    have hl' : (50000 : Int) < (x.length : Int) := by omega
    generalize RdRes x w = RES at *
    clear hl hm
    go_enter Tryz.func10, Tryz.ntmps10
    go_wp2
    refine bodyPost_ret (ret_cell_tmp rfl _ _ (w.heap.size) [.slice none 0 0] rfl ?hr Tryz.underlying24 rfl size_setup) rfl ?hv
    case hr => exact rd_range (al_new w _ _ rfl)
    case hv => exact HR.out _ _ (rd_below _ _) rfl
  · have hl' : ¬ (50000 : Int) < (x.length : Int) := by omega
    have HP := Lib.hid (fun (W : World) (hb : Below w.heap.size w W) => parse_any x (by omega) W (hm.below hm.pos hb))
    cases hf : filR x with
    | none =>
      have HR := Lib.hid (fun (e : Ending) (W' : World) (hb : Below w.heap.size w W') (he : e = .returned (.tuple #[.agg #[.slice none 0 0], .int .i64 4])) => show RdRes x w e W' from ⟨hb, .inr (.inl ⟨by omega, hf, he⟩)⟩)
      have HP2 := Lib.hid (fun (W : World) (hb : Below w.heap.size w W) => (HP.out W hb).mono (R' := fun e w' => e = .returned (.tuple #[.agg #[.slice none 0 0], .bool false]) ∧ Below W.heap.size W w') fun e w' hr => by
        obtain ⟨hb, hr2⟩ := hr
        rw [hf] at hr2
        exact ⟨hr2, hb⟩)
      clear HP hf hm hl
      generalize RdRes x w = RES at *
      go_enter Tryz.func10, Tryz.ntmps10
      go_upto_region 4 with (go_at_call 28; refine (HP2.out _ (rd_below _ _)).mono ?_; rintro e W1 ⟨rfl, hb1⟩)
      have g0 : (World.alloc W1 (.cells #[.slice none 0 0] 24)).heap[w.heap.size]? = some (.cells #[.slice none 0 0] 24) := al_old ((hb1.block _ (by simp)).trans (al_new w _ _ rfl)); have g1 := al_new W1 (.cells #[.slice none 0 0] 24) _ rfl; have HB := Lib.hid (((rd_below w (.cells #[.slice none 0 0] 24)).trans (hb1.mono (by simp))).alloc (by have := hb1.size; simp at this; omega) (.cells #[.slice none 0 0] 24)); have hne : w.heap.size ≠ W1.heap.size := (by have := hb1.size; simp at this; omega); clear hb1; generalize World.alloc W1 _ = V at *; generalize W1.heap.size = sb at *; have c0 : V.cell? ⟨w.heap.size, 0, none⟩ = some (.slice none 0 0) := cell_of_row _ _ 0 _ _ _ g0; have c1 : V.frozen? ⟨w.heap.size, 0, none⟩ = false := Lib.frozen_of_heap g0 0; have c2 : V.cell? ⟨sb, 0, none⟩ = some (.slice none 0 0) := cell_of_row _ _ 0 _ _ _ g1
      go_wp2
      refine bodyPost_ret (ret_cell_tmp rfl _ _ (w.heap.size) [.slice none 0 0] rfl ?hr Tryz.underlying24 rfl size_setup) rfl ?hv
      case hr => exact rd_range (set_same _ _ _ _ _ _ _ g0)
      case hv => exact HR.out _ _ (HB.out.setCell (p := ⟨w.heap.size, 0, none⟩) (Nat.le_refl _) _) rfl
    | some pps =>
      have HR0 := Lib.hid (fun (e : Ending) (W' : World) (a : Option Addr) (c : Nat) (L : List PR) (hL : L.map toPP = pps) (hk : checkB L.length (qF L) = false) (hb : Below w.heap.size w W') (he : e = .returned (.tuple #[.agg #[.slice none 0 0], .int .i64 2])) => show RdRes x w e W' from ⟨hb, .inr (.inr ⟨by omega, a, c, L, by rw [hf, hL], .inl ⟨hk, he⟩⟩)⟩)
      have HR1 := Lib.hid (fun (e : Ending) (W' : World) (a : Option Addr) (c : Nat) (L : List PR) (hL : L.map toPP = pps) (hk : checkB L.length (qF L) = true) (hb : Below w.heap.size w W') (he : e = .returned (.tuple #[.agg #[.slice a L.length c], .int .i64 0])) (hp : OPl w.heap.size W' a c L) => show RdRes x w e W' from ⟨hb, .inr (.inr ⟨by omega, a, c, L, by rw [hf, hL], .inr ⟨hk, he, hp⟩⟩)⟩)
      have HP2 := Lib.hid (fun (W : World) (hb : Below w.heap.size w W) => (HP.out W hb).mono (R' := fun e w' => (∃ (a : Option Addr) (c : Nat) (L : List PR), L.map toPP = pps ∧ e = .returned (.tuple #[.agg #[.slice a L.length c], .bool true]) ∧ OPl W.heap.size w' a c L) ∧ Below W.heap.size W w') fun e w' hr => by
        obtain ⟨hb, hr2⟩ := hr
        rw [hf] at hr2
        exact ⟨hr2, hb⟩)
      clear HP hf hm hl
      generalize RdRes x w = RES at *
      go_enter Tryz.func10, Tryz.ntmps10
      go_upto_region 4 with (go_at_call 28; refine (HP2.out _ (rd_below _ _)).mono ?_; rintro e W1 ⟨⟨a, c, L, hL, rfl, hp⟩, hb1⟩)
      have HPL := Lib.hid (OPl.base (hp.below (rd_below W1 (.cells #[.slice a L.length c] 24))) (by simp : w.heap.size ≤ (World.alloc w (.cells #[.slice none 0 0] 24)).heap.size))
      clear hp
      have g0 : (World.alloc W1 (.cells #[.slice a L.length c] 24)).heap[w.heap.size]? = some (.cells #[.slice none 0 0] 24) := al_old ((hb1.block _ (by simp)).trans (al_new w _ _ rfl)); have g1 := al_new W1 (.cells #[.slice a L.length c] 24) _ rfl; have HB := Lib.hid (((rd_below w (.cells #[.slice none 0 0] 24)).trans (hb1.mono (by simp))).alloc (by have := hb1.size; simp at this; omega) (.cells #[.slice a L.length c] 24)); have hne : w.heap.size ≠ W1.heap.size := (by have := hb1.size; simp at this; omega); clear hb1; generalize World.alloc W1 _ = V at *; generalize W1.heap.size = sb at *; have c0 : V.cell? ⟨w.heap.size, 0, none⟩ = some (.slice none 0 0) := cell_of_row _ _ 0 _ _ _ g0; have c1 : V.frozen? ⟨w.heap.size, 0, none⟩ = false := Lib.frozen_of_heap g0 0; have c2 : V.cell? ⟨sb, 0, none⟩ = some (.slice a L.length c) := cell_of_row _ _ 0 _ _ _ g1
      have HCK := Lib.hid (check_any a L.length c (qF L) V V.heap.size (Nat.le_refl _) HPL.out.planes)
      cases hk : checkB L.length (qF L) with
      | false =>
        rw [hk] at HCK
        have HE := Lib.hid (fun e W' => HR0.out e W' a c L hL hk)
        clear HR0 HR1 hL hk HPL
        go_upto_region 7 with (go_at_call 18; refine HCK.out.mono ?_; rintro e W2 ⟨rfl, hb2⟩)
        have g0' := (hb2.block _ (Array.getElem?_eq_some_iff.1 g0).1).trans g0
        have HB2 := Lib.hid (HB.out.trans (hb2.mono HB.out.size))
        have y0 : W2.cell? ⟨w.heap.size, 0, none⟩ = some (.slice none 0 0) := cell_of_row _ _ 0 _ _ _ g0'
        have y1 : W2.frozen? ⟨w.heap.size, 0, none⟩ = false := Lib.frozen_of_heap g0' 0
        clear c0 c1 c2 hb2
        go_wp2
        refine bodyPost_ret (ret_cell_tmp rfl _ _ (w.heap.size) [.slice none 0 0] rfl ?hr Tryz.underlying24 rfl size_setup) rfl ?hv
        case hr => exact rd_range (set_same _ _ _ _ _ _ _ g0')
        case hv => exact HE.out _ _ (HB2.out.setCell (p := ⟨w.heap.size, 0, none⟩) (Nat.le_refl _) _) rfl
      | true =>
        rw [hk] at HCK
        have HE := Lib.hid (fun e W' => HR1.out e W' a c L hL hk)
        clear HR0 HR1 hL hk
        go_upto_region 8 with (go_at_call 18; refine HCK.out.mono ?_; rintro e W2 ⟨rfl, hb2⟩)
        have g0' := (hb2.block _ (Array.getElem?_eq_some_iff.1 g0).1).trans g0
        have g1' := (hb2.block _ (Array.getElem?_eq_some_iff.1 g1).1).trans g1
        have HB2 := Lib.hid (HB.out.trans (hb2.mono HB.out.size))
        have HPL2 := Lib.hid (HPL.out.below hb2)
        have y0 : W2.cell? ⟨w.heap.size, 0, none⟩ = some (.slice none 0 0) := cell_of_row _ _ 0 _ _ _ g0'
        have y1 : W2.frozen? ⟨w.heap.size, 0, none⟩ = false := Lib.frozen_of_heap g0' 0
        have y2 : W2.cell? ⟨sb, 0, none⟩ = some (.slice a L.length c) := cell_of_row _ _ 0 _ _ _ g1'
        clear c0 c1 c2 hb2
        go_wp2
        refine bodyPost_ret (ret_cell_tmp rfl _ _ (w.heap.size) [.slice a L.length c] rfl ?hr Tryz.underlying24 rfl size_setup) rfl ?hv
        case hr => exact rd_range (set_same _ _ _ _ _ _ _ g0')
        case hv => exact HE.out _ _ (HB2.out.setCell (p := ⟨w.heap.size, 0, none⟩) (Nat.le_refl _) _) rfl (HPL2.out.pop g0' 0 _)
end Go.Proofs.YtegimepmccilfaaGreatDoor
