/- The walk of the reference's Read. -/
import Derived.Test.YtegimepmccilfaaGreatDoorPrC
import Derived.Test.YtegimepmccilfaaGreatDoorGpD
import Derived.Test.YtegimepmccilfaaGreatDoorPlaneJ
namespace Go.Proofs.YtegimepmccilfaaGreatDoor
open Go.RowKit
set_option linter.unusedVariables false
set_option linter.unusedSimpArgs false
/-- what Read holds while it reads lines -/
structure PY (w : World) (sb lb : Nat) (cur : Array Value) (L : List PR) (v : Value) (W : World) : Prop where
  below : Below w.heap.size w W
  own : W.ownsRow w.heap.size 42 15 v L.length (pC L)
  mem : ∀ q ∈ L, PMem w.heap.size W q
  rbx : W.heap[w.heap.size]? = some (.cells #[nilV] 24)
  sbox : W.heap[sb]? = some (.cells #[v] 24)
  lines : W.heap[lb]? = some (.cells cur 9)
structure R5 (w : World) (lb : Nat) (cur : Array Value) (W : World) : Prop where
  below : Below w.heap.size w W
  rbx : W.heap[w.heap.size]? = some (.cells #[nilV] 24)
  lines : W.heap[lb]? = some (.cells cur 9)
theorem R5.quiet {w W W' : World} {lb : Nat} {cur : Array Value} (h : R5 w lb cur W) (hl : Below W.heap.size W W') : R5 w lb cur W' :=
  ⟨h.below.trans (hl.mono h.below.size), (hl.block _ (Array.getElem?_eq_some_iff.1 h.rbx).1).trans h.rbx, (hl.block _ (Array.getElem?_eq_some_iff.1 h.lines).1).trans h.lines⟩
section
variable {w W W' : World} {sb lb : Nat} {cur : Array Value} {L : List PR} {v : Value}
theorem PY.quiet (h : PY w sb lb cur L v W) (hl : Below W.heap.size W W') : PY w sb lb cur L v W' :=
  ⟨h.below.trans (hl.mono h.below.size), own_below h.own hl, fun q hq => (h.mem q hq).below hl, (hl.block _ (Array.getElem?_eq_some_iff.1 h.rbx).1).trans h.rbx, (hl.block _ (Array.getElem?_eq_some_iff.1 h.sbox).1).trans h.sbox, (hl.block _ (Array.getElem?_eq_some_iff.1 h.lines).1).trans h.lines⟩
theorem PY.word {ls : List Tx} {i : Nat} (h : PY w sb lb cur L v W) (hc : ∀ i, i < ls.length → cur[i]? = some (Value.string ⟨(ls.getD i []).toArray⟩)) (hi : i < ls.length) : W.cell? ⟨lb, i, none⟩ = some (.string ⟨(ls.getD i []).toArray⟩) := (cell_of_row _ _ _ _ _ _ h.lines).trans (hc i hi)
theorem PY.app (h : PY w sb lb cur L v W) (h1 : w.heap.size ≤ sb) (h2 : w.heap.size ≠ sb) {q : PR} {v' : Value} (hq : PMem w.heap.size W q) (ho : W'.ownsRow w.heap.size 42 15 v' (L.length + 1) (pC L ++ q.cells)) (hg : W.grownBy W' v.ownBlock) :
    W'.heap[sb]? = some (.cells #[v] 24) ∧ PY w sb lb cur (L ++ [q]) v' (W'.setCell ⟨sb, 0, none⟩ v') := by
  have e1 : W'.heap[sb]? = some (.cells #[v] 24) := (hg.block _ (Array.getElem?_eq_some_iff.1 h.sbox).1 (Ne.symm (row_off h.own h.sbox (by decide)))).trans h.sbox
  have e2 : W'.heap[w.heap.size]? = some (.cells #[nilV] 24) := (hg.block _ (Array.getElem?_eq_some_iff.1 h.rbx).1 (Ne.symm (row_off h.own h.rbx (by decide)))).trans h.rbx
  have e3 : W'.heap[lb]? = some (.cells cur 9) := (hg.block _ (Array.getElem?_eq_some_iff.1 h.lines).1 (Ne.symm (row_off h.own h.lines (by decide)))).trans h.lines
  have hm : ∀ p ∈ L ++ [q], PMem w.heap.size W' p := fun p hp => by
    rcases List.mem_append.1 hp with hp | hp
    · exact (h.mem p hp).grown h.own hg
    · obtain rfl := List.mem_singleton.1 hp
      exact hq.grown h.own hg
  refine ⟨e1, ?_, ?_, fun p hp => (hm p hp).pop e1 (by decide) (by decide) 0 v', (Below.heap_setCell _ _ _ _ h2).trans e2, set_same _ _ _ _ _ _ _ e1, (Below.heap_setCell _ _ _ _ (blk_ne e3 e1 (by decide))).trans e3⟩
  · exact (h.below.grown hg h.below.size (fun g e => (h.own.lt g e).1)).setCell (p := ⟨sb, 0, none⟩) h1 v'
  · rw [pC_snoc, List.length_append, List.length_singleton]
    exact row_pop ho e1 (by decide) 0 v'
end
theorem readLine_no {y : Tx} (hy : y.length ≤ 60000) (h : lineR (spl 32 y) = none) (w : World) : Calls Tryz.prog 31 #[.string ⟨y.toArray⟩] w fun e w' => (∃ q : PR, e = .returned (.tuple #[q.plane, .bool false])) ∧ Below w.heap.size w w' :=
  (readLine_any y hy w).mono fun e w' hr => by
    obtain ⟨hb, hr2⟩ := hr
    rw [h] at hr2
    exact ⟨hr2, hb⟩
theorem readLine_yes {y : Tx} (hy : y.length ≤ 60000) {pp : PP} (h : lineR (spl 32 y) = some pp) (w : World) : Calls Tryz.prog 31 #[.string ⟨y.toArray⟩] w fun e w' => (∃ q : PR, e = .returned (.tuple #[q.plane, .bool true]) ∧ toPP q = pp ∧ PMem w.heap.size w' q) ∧ Below w.heap.size w w' :=
  (readLine_any y hy w).mono fun e w' hr => by
    obtain ⟨hb, hr2⟩ := hr
    rw [h] at hr2
    exact ⟨hr2, hb⟩
/-- the test of a file's end -/
theorem last_is {ls : List Tx} (h : 0 < ls.length) : ls.getLast? = some [] ↔ ls.getD (ls.length - 1) [] = [] := by
  rw [List.getLast?_eq_getElem?, List.getD_eq_getElem?_getD, List.getElem?_eq_getElem (by omega)]
  simp
theorem mids_at {ls : List Tx} {i : Nat} (h : i + 2 < ls.length) : ls.tail.dropLast.getD i [] = ls.getD (i + 1) [] := by
  rw [List.getD_eq_getElem?_getD, List.getElem?_eq_getElem (by simp; omega), List.getElem_dropLast, List.getElem_tail, List.getD_eq_getElem?_getD, List.getElem?_eq_getElem (by omega)]
theorem mids_len {ls : List Tx} : ls.tail.dropLast.length = ls.length - 2 := by simp; omega
set_option maxRecDepth 100000 in
set_option maxHeartbeats 8000000 in
theorem rRead_any (x : Tx) (hx : x.length ≤ maxLen) (w : World) : Calls Tryz.prog 12 #[.string ⟨x.toArray⟩] w (RdRes x w) := by
  unfold maxLen at hx
  have hsz : (⟨x.toArray⟩ : ByteArray).size = x.length := pl_size x
  by_cases hl : 50000 < x.length
  · have HR := Lib.hid (fun (e : Ending) (W' : World) (hb : Below w.heap.size w W') (he : e = .returned (.tuple #[.agg #[.slice none 0 0], .int .i64 3])) => show RdRes x w e W' from ⟨hb, .inl ⟨hl, he⟩⟩)
    have hl' : (50000 : Int) < (x.length : Int) := by omega
    generalize RdRes x w = RES at *
    clear hl
    go_enter Tryz.func12, Tryz.ntmps12
    go_wp2
    refine bodyPost_ret (ret_cell_tmp rfl _ _ (w.heap.size) [.slice none 0 0] rfl ?hr Tryz.underlying24 rfl size_setup) rfl ?hv
    case hr => exact rd_range (al_new w _ _ rfl)
    case hv => exact HR.out _ _ (rd_below _ _) rfl
  have hl' : ¬ (50000 : Int) < (x.length : Int) := by omega
  have hf := ref_fil (t := x) (by omega)
  have HR4 := Lib.hid (fun (W' : World) (hb : Below w.heap.size w W') (hn : refR x = none) => show RdRes x w (.returned (.tuple #[.agg #[.slice none 0 0], .int .i64 4])) W' from ⟨hb, .inr (.inl ⟨by omega, by rw [← hf]; exact hn, rfl⟩)⟩)
  have HR2 := Lib.hid (fun (W' : World) (a : Option Addr) (c : Nat) (L : List PR) (hb : Below w.heap.size w W') (hn : refR x = some (L.map toPP)) (hk : checkB L.length (qF L) = false) => show RdRes x w (.returned (.tuple #[.agg #[.slice none 0 0], .int .i64 2])) W' from ⟨hb, .inr (.inr ⟨by omega, a, c, L, by rw [← hf]; exact hn, .inl ⟨hk, rfl⟩⟩)⟩)
  have HR0 := Lib.hid (fun (W' : World) (a : Option Addr) (c : Nat) (L : List PR) (hb : Below w.heap.size w W') (hn : refR x = some (L.map toPP)) (hk : checkB L.length (qF L) = true) (hp : OPl w.heap.size W' a c L) => show RdRes x w (.returned (.tuple #[.agg #[.slice a L.length c], .int .i64 0])) W' from ⟨hb, .inr (.inr ⟨by omega, a, c, L, by rw [← hf]; exact hn, .inr ⟨hk, rfl, hp⟩⟩)⟩)
  have HSP := Lib.hid (fun (W : World) => rSplit_any 10 x (by omega) W)
  have HWL := Lib.hid (fun (i : Nat) => show ((spl 10 x).getD i []).length ≤ 60000 from by
    by_cases hi : i < (spl 10 x).length
    · rw [List.getD_eq_getElem?_getD, List.getElem?_eq_getElem hi]
      exact Nat.le_trans (spl_wlen 10 x _ (List.getElem_mem _)) (by omega)
    · rw [List.getD_eq_getElem?_getD, List.getElem?_eq_none (by omega)]
      simp)
  have hwl : (spl 10 x).length ≤ 60001 := Nat.le_trans (spl_llen 10 x) (by omega)
  have hw1 : 0 < (spl 10 x).length := by rw [spl_len]; omega
  have HRF := Lib.hid (show refR x = _ from refR.eq_1 x)
  unfold RSplit at HSP
  generalize RdRes x w = RES at *
  generalize refR x = RR at *
  generalize spl 10 x = ls at *
  clear hf hl
  go_enter Tryz.func12, Tryz.ntmps12
  go_upto_region 4 with (go_at_call 30; refine (HSP.out _).mono ?_; rintro e W1 ⟨la, lcap, rfl, ho, hb⟩)
  obtain ⟨lb, cur, rfl, hlb, hlc, hlh, hcur⟩ := own_words rfl hw1 ho
  have HCU := Lib.hid hcur
  have hrb : W1.heap[w.heap.size]? = some (.cells #[nilV] 24) := (hb.block _ (by simp)).trans (al_new w _ _ rfl)
  have HB1 := Lib.hid ((rd_below w (.cells #[nilV] 24)).trans (hb.mono (by simp)))
  have HLH := Lib.hid hlh
  have HRB := Lib.hid hrb
  clear ho hb hlb hlh hcur hrb HSP
  have HR5 := Lib.hid (fun (W : World) (h : R5 w lb cur W) (i : Nat) (hi : i < ls.length) => show W.cell? ⟨lb, i, none⟩ = some (.string ⟨(ls.getD i []).toArray⟩) from (cell_of_row _ _ _ _ _ _ h.lines).trans (HCU.out i hi))
  have H5 := Lib.hid (show R5 w lb cur W1 from ⟨HB1.out, HRB.out, HLH.out⟩)
  clear HB1 HRB HLH
  have i1 : IntKind.i64.wrap ((ls.length : Int) - 1) = (ls.length : Int) - 1 := IntWalk.i64_in _ (by omega)
  have i2 : (1 : Int) ≤ (ls.length : Int) := by omega
  have i3 : (0 : Int) ≤ (ls.length : Int) - 1 := by omega
  have i4 : ((ls.length : Int) - 1).toNat = ls.length - 1 := by omega
  have i5 : (ls.length : Int) - 1 < (ls.length : Int) := by omega
  go_cut [27] from 16 to 27 (fun s27 wx => s27 = .bool (decide (¬ (2 ≤ ls.length ∧ ls.getD (ls.length - 1) [] = []))) ∧ wx = W1)
  case first =>
    by_cases h2 : ls.length < 2
    · have h2' : (ls.length : Int) < 2 := by omega
      have HD := Lib.hid (show decide (¬ (2 ≤ ls.length ∧ ls.getD (ls.length - 1) [] = [])) = true from decide_eq_true (fun h => by omega))
      clear h2
      go_wp2
      go_meet
      exact ⟨by rw [HD.out], rfl⟩
    · have h2' : ¬ (ls.length : Int) < 2 := by omega
      have d0 := HR5.out _ H5.out (ls.length - 1) (by omega)
      have HD := Lib.hid (show decide (¬ (2 ≤ ls.length ∧ ls.getD (ls.length - 1) [] = [])) = !(ls.getD (ls.length - 1) []).isEmpty from by
        have h3 : 2 ≤ ls.length := by omega
        generalize ls.getD (ls.length - 1) [] = y
        cases y <;> simp [h3])
      clear h2
      generalize ls.getD (ls.length - 1) [] = y at *
      go_wp2
      go_meet
      exact ⟨by rw [HD.out], rfl⟩
  case rest =>
    obtain ⟨rfl, rfl⟩ := hcut
    by_cases hok : 2 ≤ ls.length ∧ ls.getD (ls.length - 1) [] = []
    case neg =>
      have HN := Lib.hid (show RR = none from by
        rw [HRF.out, if_neg (fun h => hok ⟨h.1, (last_is hw1).1 h.2⟩)])
      have hd : decide (¬ (2 ≤ ls.length ∧ ls.getD (ls.length - 1) [] = [])) = true := decide_eq_true hok
      rw [hd]
      clear hok hd i1 i2 i3 i4 i5
      have g0 := H5.out.rbx
      (have r0 : (wc).cell? ⟨w.heap.size, 0, none⟩ = some (.slice none 0 0) := cell_of_row _ _ 0 _ _ _ g0; have r1 : (wc).frozen? ⟨w.heap.size, 0, none⟩ = false := Lib.frozen_of_heap g0 0)
      go_wp2
      (refine bodyPost_ret (ret_cell_tmp rfl _ _ (w.heap.size) [.slice none 0 0] rfl ?hr Tryz.underlying24 rfl size_setup) rfl ?hv; (case hr => exact rd_range (set_same _ _ _ _ _ _ _ g0)))
      case hv => exact HR4.out _ (H5.out.below.setCell (p := ⟨w.heap.size, 0, none⟩) (Nat.le_refl _) _) HN.out
    case pos =>
      have hd : decide (¬ (2 ≤ ls.length ∧ ls.getD (ls.length - 1) [] = [])) = false := decide_eq_false (fun h => h hok)
      rw [hd]
      have HRF2 := Lib.hid (show RR = if spl 32 (ls.getD 0 []) = [setup5, Lib.itoa ((ls.length - 2 : Nat) : Int)] then lnsR (ls.tail.dropLast) else none from by
        rw [HRF.out, if_pos ⟨hok.1, (last_is hw1).2 hok.2⟩, show ls.headD [] = ls.getD 0 [] from by cases ls <;> rfl])
      obtain ⟨hn2, _⟩ := hok
      have hw0i : (0 : Int) < (ls.length : Int) := by omega
      have d0 := HR5.out _ H5.out 0 (by omega)
      have HSW := Lib.hid (fun (W : World) => rSplit_any 32 (ls.getD 0 []) (HWL.out 0) W)
      have hps : 0 < (spl 32 (ls.getD 0 [])).length := by rw [spl_len]; omega
      unfold RSplit at HSW
      clear hd HRF
      generalize ls.getD 0 [] = y at *
      generalize spl 32 y = ws at *
      go_upto_region 7 with (go_at_call 30; refine (HSW.out _).mono ?_; rintro e W5 ⟨qa, qcap, rfl, hqo, hqb⟩)
      obtain ⟨qb, cur2, rfl, _, _, hqh, hqc⟩ := own_words rfl hps hqo
      have H6 := Lib.hid (H5.out.quiet hqb)
      have HQC := Lib.hid (fun (i : Nat) (hi : i < ws.length) => (cell_of_row W5 qb i _ _ _ hqh).trans (hqc i hi))
      have lqb := (Array.getElem?_eq_some_iff.1 hqh).1
      clear H5 d0 HSW hqo hqb hqh hqc i1 i2 i3 i4 i5
      have i1 : IntKind.i64.wrap ((ls.length : Int) - 2) = (ls.length : Int) - 2 := IntWalk.i64_in _ (by omega)
      have HDC := Lib.hid (fun (W : World) => show Calls Tryz.prog 26 #[.int .i64 ((ls.length : Int) - 2)] W (fun e w' => e = .returned (.string ⟨(Lib.itoa ((ls.length - 2 : Nat) : Int)).toArray⟩) ∧ Below W.heap.size W w') from by
        rw [show ((ls.length - 2 : Nat) : Int) = (ls.length : Int) - 2 by omega]
        exact (r1Decimal_any ((ls.length : Int) - 2) ⟨by omega, by omega⟩ W).mono fun e w' h => ⟨h.1, h.2 ▸ Below.refl _ _⟩)
      generalize hit : Lib.itoa ((ls.length - 2 : Nat) : Int) = T at *
      clear hit
      go_cut [51] from 33 to 51 (fun s51 wx => s51 = .bool (decide (¬ ws = [setup5, T])) ∧ Hid (R5 w lb cur wx))
      case first =>
        by_cases h2 : ws.length = 2
        case neg =>
          have h2' : ((ws.length : Int) == 2) = false := by rw [beq_eq_false_iff_ne]; omega
          have h2'' : ¬ (ws.length : Int) = 2 := by omega
          have HD := Lib.hid (show decide (¬ ws = [setup5, T]) = true from decide_eq_true (fun h => h2 (by rw [h]; rfl)))
          clear h2 HQC HDC i1
          (refine wp_region_calm (W5.heap.size) (by kernel_rfl) (by kernel_rfl) ?_; (repeat (first | go_big_quiet_step ((fail)) | quiet_step ((fail)))); refine wpQuiet_nil ?_; intro _ hw'; obtain ⟨xq, hw''⟩ := hw'; subst hw'')
          go_wp2_with fail
          go_meet
          exact ⟨by rw [HD.out], Lib.hid (H6.out.quiet xq.below)⟩
        case pos =>
          obtain ⟨a, b, rfl⟩ : ∃ a b, ws = [a, b] := by
            match ws, h2 with
            | [a, b], _ => exact ⟨a, b, rfl⟩
          have c0 : W5.cell? ⟨qb, 0, none⟩ = some (.string ⟨a.toArray⟩) := HQC.out 0 (by simp)
          have c1 : W5.cell? ⟨qb, 1, none⟩ = some (.string ⟨b.toArray⟩) := HQC.out 1 (by simp)
          clear h2 HQC
          by_cases ha : a = setup5
          case neg =>
            have ha' : (a == setup5) = false := by simpa using ha
            have HD := Lib.hid (show decide (¬ [a, b] = [setup5, T]) = true from decide_eq_true (fun h => ha (by injection h)))
            have ha'' : (!(a == [115, 101, 116, 117, 112])) = true := by show (!(a == setup5)) = true; rw [ha']; rfl
            clear ha HDC i1 c1
            (refine wp_region_calm (W5.heap.size) (by kernel_rfl) (by kernel_rfl) ?_; (repeat (first | go_big_quiet_step ((fail)) | quiet_step ((fail)))); refine wpQuiet_nil ?_; intro _ hw'; obtain ⟨xq, hw''⟩ := hw'; subst hw'')
            go_wp2_with fail
            go_meet
            exact ⟨by rw [HD.out], Lib.hid (H6.out.quiet xq.below)⟩
          case pos =>
            subst ha
            have HD := Lib.hid (show decide (¬ [setup5, b] = [setup5, T]) = !(b == T) from by simp [Bool.beq_eq_decide_eq])
            (refine wp_region_calm (W5.heap.size) (by kernel_rfl) (by kernel_rfl) ?_; (repeat (first | go_big_quiet_step ((go_at_call 26; exact Calls.calm_of (by simp) (HDC.out _))) | quiet_step ((go_at_call 26; exact Calls.calm_of (by simp) (HDC.out _))))); refine wpQuiet_nil ?_; intro _ hw'; obtain ⟨xq, hw''⟩ := hw'; subst hw'')
            go_wp2_with fail
            go_meet
            exact ⟨by rw [HD.out]; rfl, Lib.hid (H6.out.quiet xq.below)⟩
      case rest =>
        obtain ⟨rfl, H7⟩ := hcut
        by_cases hw2 : ws = [setup5, T]
        case neg =>
          have HN := Lib.hid (show RR = none from by rw [HRF2.out, if_neg hw2])
          have hd : decide (¬ ws = [setup5, T]) = true := decide_eq_true hw2
          rw [hd]
          clear hw2 hd i1 HQC HDC
          have g0 := H7.out.rbx
          (have r0 : (wc).cell? ⟨w.heap.size, 0, none⟩ = some (.slice none 0 0) := cell_of_row _ _ 0 _ _ _ g0; have r1 : (wc).frozen? ⟨w.heap.size, 0, none⟩ = false := Lib.frozen_of_heap g0 0)
          go_wp2
          (refine bodyPost_ret (ret_cell_tmp rfl _ _ (w.heap.size) [.slice none 0 0] rfl ?hr Tryz.underlying24 rfl size_setup) rfl ?hv; (case hr => exact rd_range (set_same _ _ _ _ _ _ _ g0)))
          case hv => exact HR4.out _ (H7.out.below.setCell (p := ⟨w.heap.size, 0, none⟩) (Nat.le_refl _) _) HN.out
        case pos =>
          have hd : decide (¬ ws = [setup5, T]) = false := decide_eq_false (fun h => h hw2)
          rw [hd]
          have HRL := Lib.hid (show RR = lnsR (ls.tail.dropLast) from by rw [HRF2.out, if_pos hw2])
          have HML := Lib.hid (mids_len (ls := ls))
          have HMA := Lib.hid (fun (i : Nat) (h : i + 2 < ls.length) => mids_at h)
          clear hw2 hd i1 HQC HDC HRF2 lqb hps H6
          generalize hmid : ls.tail.dropLast = mids at *
          clear hmid
          go_upto_region 10 with (fail)
          have HY0 := Lib.hid (show PY w wc.heap.size lb cur [] nilV (World.alloc wc (.cells #[nilV] 24)) from
            ⟨H7.out.below.trans ((rd_below wc _).mono H7.out.below.size), World.ownsRow_nil _ _ _ _, fun q hq => absurd hq List.not_mem_nil, al_old H7.out.rbx, al_new wc _ _ rfl, al_old H7.out.lines⟩)
          have HSB := Lib.hid (show w.heap.size < wc.heap.size from (Array.getElem?_eq_some_iff.1 H7.out.rbx).1)
          clear H7
          generalize World.alloc wc _ = V0 at *
          generalize wc.heap.size = sb at *
          have hsl : w.heap.size ≤ sb := Nat.le_of_lt HSB.out
          have hsn : w.heap.size ≠ sb := Nat.ne_of_lt HSB.out
          have HSL := Lib.hid hsl
          have HSN := Lib.hid hsn
          clear hsl hsn
          have j1 : IntKind.i64.wrap ((ls.length : Int) - 1) = (ls.length : Int) - 1 := IntWalk.i64_in _ (by omega)
          go_upto_region 11 with (fail)
          go_loopw [7, 8, 9] (fun s7 s8 s9 wr => ∃ (i : Nat) (L : List PR) (v : Value), i ≤ ls.length - 2 ∧ s7 = .int .i64 ((i + 1 : Nat) : Int) ∧ Hid (LnInv mids i L) ∧ Hid (PY w sb lb cur L v wr)) (fun s7 _ _ _ => ls.length - (intOf s7).toNat)
          case atStart => exact ⟨0, [], nilV, Nat.zero_le _, rfl, Lib.hid (LnInv.start _), HY0⟩
          case round =>
            clear HY0
            obtain ⟨i, L, v, hi, rfl, HI, HY⟩ := hrel
            obtain ⟨va, vc, rfl⟩ := own_len HY.out.own
            by_cases hil : i < ls.length - 2
            case neg =>
              have hil' : ¬ ((i + 1 : Nat) : Int) < (ls.length : Int) - 1 := by omega
              have HE := Lib.hid (show RR = some (L.map toPP) from by rw [HRL.out, HI.out.fin (by rw [HML.out]; exact hil)])
              have HOP := Lib.hid (show OPl w.heap.size wr va vc L from ⟨HY.out.own, HY.out.mem⟩)
              have HCK := Lib.hid (refSetup_any va L.length vc (qF L) wr wr.heap.size (Nat.le_refl _) HOP.out.planes)
              have y0 : wr.cell? ⟨sb, 0, none⟩ = some (.slice va L.length vc) := cell_of_row _ _ 0 _ _ _ HY.out.sbox
              clear hil hi HI HRL
              cases hk : checkB L.length (qF L) with
              | false =>
                rw [hk] at HCK
                have HF := Lib.hid hk
                clear hk
                go_upto_region 18 with (go_at_call 8; refine HCK.out.mono ?_; rintro e W9 ⟨rfl, hb9⟩)
                have HY9 := Lib.hid (HY.out.quiet hb9)
                have g0 := HY9.out.rbx
                clear y0 hb9
                (have r0 : (W9).cell? ⟨w.heap.size, 0, none⟩ = some (.slice none 0 0) := cell_of_row _ _ 0 _ _ _ g0; have r1 : (W9).frozen? ⟨w.heap.size, 0, none⟩ = false := Lib.frozen_of_heap g0 0)
                go_wp2
                (refine bodyPost_ret (ret_cell_tmp rfl _ _ (w.heap.size) [.slice none 0 0] rfl ?hr Tryz.underlying24 rfl size_setup) rfl ?hv; (case hr => exact rd_range (set_same _ _ _ _ _ _ _ g0)))
                case hv => exact HR2.out _ va vc L (HY9.out.below.setCell (p := ⟨w.heap.size, 0, none⟩) (Nat.le_refl _) _) HE.out HF.out
              | true =>
                rw [hk] at HCK
                have HF := Lib.hid hk
                clear hk
                go_upto_region 19 with (go_at_call 8; refine HCK.out.mono ?_; rintro e W9 ⟨rfl, hb9⟩)
                have HY9 := Lib.hid (HY.out.quiet hb9)
                have HOP9 := Lib.hid (HOP.out.below hb9)
                have g0 := HY9.out.rbx
                clear y0 hb9
                have y0 : W9.cell? ⟨sb, 0, none⟩ = some (.slice va L.length vc) := cell_of_row _ _ 0 _ _ _ HY9.out.sbox
                (have r0 : (W9).cell? ⟨w.heap.size, 0, none⟩ = some (.slice none 0 0) := cell_of_row _ _ 0 _ _ _ g0; have r1 : (W9).frozen? ⟨w.heap.size, 0, none⟩ = false := Lib.frozen_of_heap g0 0)
                go_wp2
                refine bodyPost_ret (ret_cell_tmp rfl _ _ (w.heap.size) [.slice va L.length vc] rfl ?hr Tryz.underlying24 rfl size_setup) rfl ?hv
                case hr => exact rd_range (set_same _ _ _ _ _ _ _ g0)
                case hv => exact HR0.out _ va vc L (HY9.out.below.setCell (p := ⟨w.heap.size, 0, none⟩) (Nat.le_refl _) _) HE.out HF.out (HOP9.out.pop g0 0 _)
            case pos =>
              have hil' : ((i + 1 : Nat) : Int) < (ls.length : Int) - 1 := by omega
              have hiw : ((i + 1 : Nat) : Int) < (ls.length : Int) := by omega
              have d0 := HY.out.word HCU.out (i := i + 1) (by omega)
              have HWY := Lib.hid (HWL.out (i + 1))
              have hma := HMA.out i (by omega)
              have HF := Lib.hid (fun (h : lineR (spl 32 (ls.getD (i + 1) [])) = none) => show RR = none from by rw [HRL.out, HI.out.fail (by rw [HML.out]; exact hil) (by rw [hma]; exact h)])
              have HST := Lib.hid (fun (q : PR) (h : lineR (spl 32 (ls.getD (i + 1) [])) = some (toPP q)) => HI.out.step (by rw [HML.out]; exact hil) (by rw [hma]; exact h))
              have HLL := Lib.hid (show L.length ≤ 60001 by have := HI.out.len; omega)
              have hm2 : ls.length - (i + 1 + 1) < ls.length - (i + 1) := by omega
              have HM2 := Lib.hid hm2
              have hi2 : i + 1 ≤ ls.length - 2 := by omega
              clear hma HI hm2 hi hil
              generalize ls.getD (i + 1) [] = y at *
              cases hlr : lineR (spl 32 y) with
              | none =>
                have HN := Lib.hid (HF.out hlr)
                have HRX := Lib.hid (fun W => readLine_no HWY.out hlr W)
                clear hlr HF HST
                go_upto_region 15 with (go_at_call 31; refine (HRX.out _).mono ?_; rintro e W8 ⟨⟨q, rfl⟩, hb8⟩)
                change Code.wp _ _ _ _ (World.alloc W8 (.cells q.cells.toArray 42))
                have HY9 := Lib.hid ((HY.out.quiet hb8).quiet (rd_below W8 (.cells q.cells.toArray 42)))
                clear HY hb8 d0 HRX
                generalize World.alloc W8 _ = V at *
                have g0 := HY9.out.rbx
                (have r0 : (V).cell? ⟨w.heap.size, 0, none⟩ = some (.slice none 0 0) := cell_of_row _ _ 0 _ _ _ g0; have r1 : (V).frozen? ⟨w.heap.size, 0, none⟩ = false := Lib.frozen_of_heap g0 0)
                go_wp2
                (refine bodyPost_ret (ret_cell_tmp rfl _ _ (w.heap.size) [.slice none 0 0] rfl ?hr Tryz.underlying24 rfl size_setup) rfl ?hv; (case hr => exact rd_range (set_same _ _ _ _ _ _ _ g0)))
                case hv => exact HR4.out _ (HY9.out.below.setCell (p := ⟨w.heap.size, 0, none⟩) (Nat.le_refl _) _) HN.out
              | some pp =>
                have HRX := Lib.hid (fun W => readLine_yes HWY.out hlr W)
                have HST2 := Lib.hid (fun (q : PR) (h : toPP q = pp) => HST.out q (by rw [hlr, h]))
                clear hlr HF HST
                go_upto_region 16 with (go_at_call 31; refine (HRX.out _).mono ?_; rintro e W8 ⟨⟨q, rfl, hq, hqm⟩, hb8⟩)
                have HI2 := Lib.hid (HST2.out q hq)
                change Code.wp _ _ _ _ (World.alloc W8 (.cells q.cells.toArray 42))
                have HY9 := Lib.hid ((HY.out.quiet hb8).quiet (rd_below W8 (.cells q.cells.toArray 42)))
                have HQ9 := Lib.hid ((hqm.base HY.out.below.size).below (rd_below W8 (.cells q.cells.toArray 42)))
                have hnw := al_new W8 (.cells q.cells.toArray 42) _ rfl
                clear HY hb8 hq hqm d0 HRX HST2
                generalize World.alloc W8 _ = V at *
                generalize W8.heap.size = pbx at *
                have hp : ∀ j, V.cell? ⟨pbx, j, none⟩ = (#[.int .i64 q.kind, .int .i64 q.view, .int .i64 q.z, .int .i64 q.first, .int .i64 q.pitch, .int .i64 q.strips, .int .i64 q.spill, .int .i64 q.olo, .int .i64 q.ohi, .int .i64 q.clo, .int .i64 q.chi, .int .i64 q.jitter, .int .i64 q.least, .slice q.da q.dn q.dc, .slice q.ea q.en q.ec] : Array Value)[j]? := fun j => cell_of_row _ _ j _ _ _ hnw
                have y0 : V.cell? ⟨sb, 0, none⟩ = some (.slice va L.length vc) := cell_of_row _ _ 0 _ _ _ HY9.out.sbox
                obtain ⟨j0, hj0, hz0, hz1, hz2⟩ := info_parts info_plane
                have hb63 : L.length + 1 ≤ maxLen := by have := HLL.out; unfold maxLen; omega
                have hb47 : (L.length + 1) * 152 ≤ 140737488355328 := by have := HLL.out; omega
                have HB0 := Lib.hid HY9.out.below.size
                clear hnw
                go_wp2_with (at_builtin; refine wpList_append_own _ rfl _ _ 22 rfl w.heap.size 42 j0 _ 15 152 Tryz.underlying22 hj0 hz0 hz1 hz2 rfl (by decide) (.slice va L.length vc) L.length (pC L) rfl (HY9.out.own.alloc _) ⟨V.heap.size, 0, none⟩ 1 1 q.cells rfl rfl cells_new pv_one hb63 hb47 (by have := HB0.out; simp; omega) ?_; intro v' w6 hown6 hgrow6 hnil6; obtain ⟨a6, c6, rfl⟩ := own_len hown6; obtain ⟨e1, e2⟩ := (HY9.out.quiet (rd_below V (.cells q.cells.toArray 42))).app HSL.out HSN.out (HQ9.out.below (rd_below V (.cells q.cells.toArray 42))) hown6 hgrow6; have HY2 := Lib.hid e2; have q1 : w6.cell? ⟨sb, 0, none⟩ = some (.slice va L.length vc) := cell_of_row _ _ 0 _ _ _ e1; have q2 : w6.frozen? ⟨sb, 0, none⟩ = false := Lib.frozen_of_heap e1 0; clear hgrow6 hnil6 hown6 e1 e2)
                go_roundw
                case rel => exact ⟨i + 1, L ++ [q], _, hi2, by go_num, HI2, HY2⟩
                case measure => simp [intOf]; have := HM2.out; omega
end Go.Proofs.YtegimepmccilfaaGreatDoor
