/- Texts put together: ToLnE, ToLnF, ToLnG, ToLnH, SeqGenB. -/
import Derived.Test.YtgmpelhphnmknaaGreatQay
import Derived.DeepKeys3
import Derived.Test.YtgmpelhphnmknaaGreatQaj
import Derived.Test.YtgmpelhphnmknaaGreatQab
import Derived.Test.YtgmpelhphnmknaaGreatQas
set_option maxRecDepth 100000
set_option maxHeartbeats 8000000
set_option linter.unusedVariables false
set_option linter.unusedSimpArgs false
namespace Go.Proofs.YtgmpelhphnmknaaGreat
open Go Go.RowKit Go.Shelf
theorem common_any (a : Option Addr) (n c : Nat) (t : Nat → RW) (B : Nat) (w : World) (hBw : B ≤ w.heap.size) (hT : RWs B w a n t) (hn : 1 ≤ n ∧ n ≤ 200) :
  Calls Tryz.prog 106 #[.agg #[.slice a n c]] w fun e w' => (∃ lo hi : Int, e = .returned (.agg #[.int .i64 lo, .int .i64 hi])) ∧ Below w.heap.size w w' := by
 obtain ⟨h1, h2, h3⟩ : Below w.heap.size w ((w.alloc (.cells #[.slice a n c] 136)).alloc (.cells #[.int .i64 0, .int .i64 0] 28)) ∧ ((w.alloc (.cells #[.slice a n c] 136)).alloc (.cells #[.int .i64 0, .int .i64 0] 28)).heap[w.heap.size]? = some (.cells #[.slice a n c] 136) ∧ ((w.alloc (.cells #[.slice a n c] 136)).alloc (.cells #[.int .i64 0, .int .i64 0] 28)).heap[w.heap.size + 1]? = some (.cells #[.int .i64 0, .int .i64 0] 28) := by
  refine ⟨((Below.refl _ w).alloc (Nat.le_refl _) _).alloc (by simp) _, (Below.heap_alloc _ _ _ (by simp)).trans (heap_alloc_new w _), ?_⟩
  have := heap_alloc_new (w.alloc (.cells #[.slice a n c] 136)) (.cells #[.int .i64 0, .int .i64 0] 28)
  rwa [show (w.alloc (.cells #[.slice a n c] 136)).heap.size = w.heap.size + 1 from by simp] at this
 have HB := Lib.hid h1
 have HL := Lib.hid h2
 have HR := Lib.hid h3
 have HT := Hd (hT.below (h1.mono hBw))
 clear h1 h2 h3 hT
 have hn0 : (0 : Int) < (n : Int) := by omega
 go_enter Tryz.func106, Tryz.ntmps106
 go_upto_region 1 with (fail)
 generalize World.alloc (World.alloc w _) _ = V at *
 obtain ⟨b, off, rfl, hbB, c0, c1, c2⟩ := HT.out.get (show 0 < n from hn.1)
 rw [Nat.zero_mul, Nat.add_zero] at c0 c1 c2
 have k0 := cell_of_row _ _ 0 _ _ _ HL.out
 have lt1 : w.heap.size < V.heap.size := (blkL HL.out)
 have lt2 : b < V.heap.size := cells_lt c0
 go_region
 have hbd : Below V.heap.size V (V.alloc (Obj.cells #[Value.int IntKind.i64 (t 0).lo, Value.int IntKind.i64 (t 0).hi] 28)).drew := (al_below V _).drew
 have HO := Hd (show ∃ lo hi : Int, (V.alloc (Obj.cells #[Value.int IntKind.i64 (t 0).lo, Value.int IntKind.i64 (t 0).hi] 28)).drew.heap[V.heap.size]? = some (.cells #[.int .i64 lo, .int .i64 hi] 28) from ⟨_, _, heap_alloc_new V _⟩)
 have HB1 := Hd (HB.out.trans (hbd.mono HB.out.size))
 have HL1 := Hd (keep_at HL.out hbd)
 have HR1 := Hd (keep_at HR.out hbd)
 have HT1 := Hd (HT.out.below (hbd.mono (Nat.le_trans hBw HB.out.size)))
 have hg := HB.out.size
 have hr1 := (blkL HR.out)
 have hbV : B ≤ V.heap.size := Nat.le_trans hBw hg
 clear hbd k0 c0 c1 c2 lt1 lt2 HB HL HR HT
 generalize World.drew _ = V1 at *
 generalize V.heap.size = x at *
 have HK := Hd (show w.heap.size + 1 < x from hr1)
 clear hr1
 have k0 := cell_of_row _ _ 0 _ _ _ HL1.out
 go_wp2
 clear k0
 go_loopw [20] (fun s20 wr => ∃ i : Nat, i ≤ n ∧ s20 = .int .i64 (i : Int) ∧ Hid (∃ lo hi : Int, wr.heap[x]? = some (.cells #[.int .i64 lo, .int .i64 hi] 28)) ∧ Hid (wr.heap[w.heap.size + 1]? = some (.cells #[.int .i64 0, .int .i64 0] 28)) ∧ Hid (RWs B wr (some ⟨b, off, none⟩) n t) ∧ Hid (Below w.heap.size w wr)) (fun s20 _ => n - (intOf s20).toNat)
 case atStart => exact ⟨0, by omega, rfl, HO, HR1, HT1, HB1⟩
 case round =>
  clear HO HR1 HT1 HB1 HL1
  obtain ⟨i, hi, rfl, HO, HR1, HT1, HB1⟩ := hrel
  by_cases hl : i < n
  ·have hl' : (i : Int) < (n : Int) := by omega
   obtain ⟨lo, hi', ho⟩ := HO.out
   obtain ⟨b', off', hbo, _, c0, c1, c2⟩ := HT1.out.get hl
   obtain ⟨rfl, rfl⟩ : b = b' ∧ off = off' := by
    have h := Option.some.inj hbo
    injection h with h1 h2
    exact ⟨h1, h2⟩
   go_upto_region 5 with (fail)
   have hb := al_below wr (Obj.cells #[Value.int IntKind.i64 (t i).key, Value.int IntKind.i64 (t i).lo, Value.int IntKind.i64 (t i).hi] 93)
   have HG := Hd (heap_alloc_new wr (Obj.cells #[Value.int IntKind.i64 (t i).key, Value.int IntKind.i64 (t i).lo, Value.int IntKind.i64 (t i).hi] 93))
   have HO2 := Hd (keep_at ho hb)
   have HR2 := Hd (keep_at HR1.out hb)
   have HT2 := Hd (HT1.out.below (hb.mono (by have := HB1.out.size; omega)))
   have HB2 := Hd (HB1.out.trans (hb.mono HB1.out.size))
   clear hb c0 c1 c2 ho HO HR1 HT1 HB1
   generalize World.alloc wr _ = V2 at *
   generalize wr.heap.size = g at *
   obtain ⟨x0, x1⟩ := cr2 HO2.out
   have y1 := cell_of_row _ _ 1 _ _ _ HG.out
   have y2 := cell_of_row _ _ 2 _ _ _ HG.out
   have lx := (blkL HO2.out)
   have ly := (blkL HG.out)
   obtain ⟨f0, f1⟩ := fr2 HO2.out
   have gx : x ≠ g := by rintro rfl; have h := HO2.out; rw [HG.out] at h; cases h
   go_region
   have hrow' := heap_setCell_same _ _ 1 _ _ (Value.int .i64 (min hi' (t i).hi)) (heap_setCell_same V2 _ 0 _ _ (Value.int .i64 (max lo (t i).lo)) HO2.out)
   have hrow : ((V2.setCell ⟨x, 0, none⟩ (Value.int .i64 (max lo (t i).lo))).setCell ⟨x, 1, none⟩ (Value.int .i64 (min hi' (t i).hi))).drew.heap[x]? = some (.cells #[.int .i64 (max lo (t i).lo), .int .i64 (min hi' (t i).hi)] 28) := by rw [heap_drew]; simpa using hrow'
   have hbl := (Below.refl x V2).setCell (p := ⟨x, 0, none⟩) (by dsimp only; omega) (Value.int .i64 (max lo (t i).lo)) |>.setCell (p := ⟨x, 1, none⟩) (by dsimp only; omega) (Value.int .i64 (min hi' (t i).hi)) |>.drew
   have HO3 := Hd (show ∃ l0 h0 : Int, ((V2.setCell ⟨x, 0, none⟩ (Value.int .i64 (max lo (t i).lo))).setCell ⟨x, 1, none⟩ (Value.int .i64 (min hi' (t i).hi))).drew.heap[x]? = some (.cells #[.int .i64 l0, .int .i64 h0] 28) from ⟨max lo (t i).lo, min hi' (t i).hi, hrow⟩)
   have HR3 := Hd ((hbl.block _ HK.out).trans HR2.out)
   have HT3 := Hd (HT2.out.below (hbl.mono hbV))
   have HB3 := Hd (HB2.out.trans (hbl.mono hg))
   clear hrow hrow' hbl x0 x1 y1 y2 lx ly f0 f1 gx HO2 HR2 HT2 HB2 HG
   generalize World.drew _ = V3 at *
   go_wp2
   go_roundw
   case rel => first | exact ⟨i + 1, by omega, by go_num, HO3, HR3, HT3, HB3⟩ | ((repeat apply Exists.intro); exact ⟨⟨i + 1, by omega, by go_num, HO3, HR3, HT3, HB3⟩, rfl⟩)
   case measure => simp [intOf]; omega
  ·obtain rfl : i = n := by omega
   have hl' : ¬ (i : Int) < (i : Int) := by omega
   obtain ⟨lo, hi', ho⟩ := HO.out
   obtain ⟨x0, x1⟩ := cr2 ho
   obtain ⟨r0, r1⟩ := cr2 HR1.out
   obtain ⟨f0, f1⟩ := fr2 HR1.out
   go_wp2
   have hrow := heap_setCell_same _ _ 1 _ _ (Value.int .i64 hi') (heap_setCell_same wr _ 0 _ _ (Value.int .i64 lo) HR1.out)
   have hbl := (HB1.out.setCell (p := ⟨w.heap.size + 1, 0, none⟩) (by dsimp only; omega) (Value.int .i64 lo)).setCell (p := ⟨w.heap.size + 1, 1, none⟩) (by dsimp only; omega) (Value.int .i64 hi')
   generalize World.setCell (World.setCell wr _ _) _ _ = V5 at *
   obtain ⟨q0, q1⟩ := cr2 hrow
   exact bodyPost_ret (v := .agg #[.int .i64 lo, .int .i64 hi']) (by simp [results, Tryz.results106, go_sem, q0, q1]) rfl ⟨⟨_, _, rfl⟩, hbl⟩
end Go.Proofs.YtgmpelhphnmknaaGreat
namespace Go.Proofs.YtgmpelhphnmknaaGreat
open Go Go.RowKit Go.Shelf
theorem smw_ToLnF {P : Prop} (h : P := by ((go_enter Tryz.func104, Tryz.ntmps104; go_upto_region 1 with (fail); generalize World.alloc w _ = V at *; (have k0 := cell_of_row _ _ 0 _ _ _ HX.out); (have k1 := cell_of_row _ _ 1 _ _ _ HX.out); go_upto_region 2 with (go_at_call 106; refine (HC.out _ HB.out).mono ?_; rintro e W1 ⟨⟨lo, hi, rfl⟩, hb1⟩; have HB1 := Hd (HB.out.trans (hb1.mono HB.out.size)); have HX1 := Hd (keep_at HX.out hb1); clear k0 k1 hb1 HB HX); have hb2 := al_below W1 (Obj.cells #[Value.int IntKind.i64 lo, Value.int IntKind.i64 hi] 28); have HB2 := Hd (HB1.out.trans (hb2.mono HB1.out.size)); have HX2 := Hd (keep_at HX1.out hb2); clear hb2 HX1; generalize World.alloc W1 _ = W2 at *; (have k0 := cell_of_row _ _ 0 _ _ _ HX2.out); (have k1 := cell_of_row _ _ 1 _ _ _ HX2.out); go_upto_region 4 with (go_at_call 105; refine (HF.out _ HB2.out).mono ?_; rintro e W3 ⟨rfl, hb3⟩; have HB3 := Hd (HB2.out.trans (hb3.mono HB2.out.size)); have HX3 := Hd (keep_at HX2.out hb3); clear k0 k1 hb3 HX2); (have k1 := cell_of_row _ _ 1 _ _ _ HX3.out); go_wp2; go_ret; exact ⟨rfl, HB3.out⟩))) : P := h
theorem some_any (a ca : Option Addr) (n c cn cc : Nat) (t : Nat → RW) (B : Nat) (w : World) (hBw : B ≤ w.heap.size) (hT : RWs B w a n t) (hn : 1 ≤ n ∧ n ≤ 200) (hf : flatB t n = false) :
  Calls Tryz.prog 104 #[.agg #[.slice a n c, .slice ca cn cc]] w fun e w' => e = .returned (.bool (decide (0 < cn))) ∧ Below w.heap.size w w' := by
 have HB := Hd (al_below w (.cells #[.slice a n c, .slice ca cn cc] 139))
 have HX := Hd (heap_alloc_new w (.cells #[.slice a n c, .slice ca cn cc] 139))
 have HC := Hd (fun W (hb : Below w.heap.size w W) => common_any a n c t B W (Nat.le_trans hBw hb.size) (hT.below (hb.mono hBw)) hn)
 have HF := Hd (fun W (hb : Below w.heap.size w W) => flat_any a n c t B W (Nat.le_trans hBw hb.size) (hT.below (hb.mono hBw)) hn)
 rw [hf] at HF
 have hlt := (blkL HX.out)
 clear hT hf
 by_cases h0 : 0 < cn
 ·have h0' : (0 : Int) < (cn : Int) := by omega
  have HD := Hd (decide_eq_true h0)
  rw [HD.out]
  exact smw_ToLnF
 ·have h0' : ¬ (0 : Int) < (cn : Int) := by omega
  have HD := Hd (decide_eq_false h0)
  rw [HD.out]
  exact smw_ToLnF
end Go.Proofs.YtgmpelhphnmknaaGreat
namespace Go.Proofs.YtgmpelhphnmknaaGreat
open Go Go.RowKit Go.Maps
theorem seen_law : Keyed Tryz.prog 253 := Keyed.of_law (deep_law (m := 4) (by decide) (by kernel_rfl) (by kernel_rfl) (by kernel_rfl))
theorem lits_int (d : Nat) {n : Int} (h : (Lit.int .i64 n).wf = true) : Tryz.prog.keyLits (d + 1) 3 [.int .i64 n] = some [.int .i64 n] := by
 simp [Program.keyLits, Tryz.underlying3, h]
theorem lits_frac (d : Nat) {a b : Int} (h1 : (Lit.int .i64 a).wf = true) (h2 : (Lit.int .i64 b).wf = true) : Tryz.prog.keyLits (d + 2) 68 [.int .i64 a, .int .i64 b] = some [.int .i64 a, .int .i64 b] := by
 have e1 : Tryz.prog.cellsOf 68 = 2 := by kernel_rfl
 have e2 : Tryz.prog.cellsOf 3 = 1 := by kernel_rfl
 simp [Program.keyLits.eq_def _ (d + 2), Tryz.underlying68, e1, e2, lits_int d h1, lits_int d h2]
theorem lits_line (d : Nat) {a b c e : Int} (h1 : (Lit.int .i64 a).wf = true) (h2 : (Lit.int .i64 b).wf = true) (h3 : (Lit.int .i64 c).wf = true) (h4 : (Lit.int .i64 e).wf = true) : Tryz.prog.keyLits (d + 3) 253 [.int .i64 a, .int .i64 b, .int .i64 c, .int .i64 e] = some [.int .i64 a, .int .i64 b, .int .i64 c, .int .i64 e] := by
 have e1 : Tryz.prog.cellsOf 68 = 2 := by kernel_rfl
 have e2 : Tryz.prog.cellsOf 253 = 4 := by kernel_rfl
 simp [Program.keyLits.eq_def _ (d + 3), Tryz.underlying253, e1, e2, lits_frac d h1 h2, lits_frac d h3 h4]
theorem key_line {a b c e : Int} (h1 : (Lit.int .i64 a).wf = true) (h2 : (Lit.int .i64 b).wf = true) (h3 : (Lit.int .i64 c).wf = true) (h4 : (Lit.int .i64 e).wf = true) : ∃ kl, keyOf Tryz.prog 253 (.agg #[.int .i64 a, .int .i64 b, .int .i64 c, .int .i64 e]) = some kl := by
 have e1 : Tryz.prog.keyType 253 = true := by kernel_rfl
 have e2 : Tryz.prog.cellsOf 253 = 4 := by kernel_rfl
 refine ⟨.string (keyBytes [.int .i64 a, .int .i64 b, .int .i64 c, .int .i64 e]), ?_⟩
 simp [keyOf, Tryz.underlying253, e1, Value.formed, e2, Value.cells]
 exact ⟨_, lits_line _ h1 h2 h3 h4, rfl⟩
def mkR (v : Value) : Option (DataW Unit × List MemPlace) := match v with
 | .bool true => some (.lit (.bool true), [])
 | .bool false => some (.lit (.bool false), [])
 | _ => none
theorem frN_abs (num den : Int) : (frN num den).natAbs ≤ num.natAbs := by
 unfold frN
 rw [Int.natAbs_tdiv]
 exact Nat.div_le_self _ _
theorem frD_abs (num den : Int) : (frD num den).natAbs ≤ den.natAbs := by
 unfold frD
 rw [Int.natAbs_tdiv]
 exact Nat.div_le_self _ _
theorem lnV_key {s : ST} (hs : s.ok) : ∃ kl, keyOf Tryz.prog 253 (lnV s) = some kl := by
 have b1 := frN_abs s.sl s.dn
 have b2 := frD_abs s.sl s.dn
 have b3 := frN_abs s.st s.dn
 have b4 := frD_abs s.st s.dn
 have h1 := hs.sl
 have h2 := hs.st
 have h3 := hs.dn
 exact key_line (WalkArith.wf_i64 (by omega)) (WalkArith.wf_i64 (by omega)) (WalkArith.wf_i64 (by omega)) (WalkArith.wf_i64 (by omega))
structure SeenAt (W : World) (mb k : Nat) (D : DataW Unit) (C : List ST) : Prop where
 own : W.ownsMap Tryz.prog 253 mkR mb k D
 isMap : IsMap D
 keys : ∀ v kl, keyOf Tryz.prog 253 v = some kl → Maps.has D kl = true → ∃ c ∈ C, lnV c = v
 vals : ∀ v kl, keyOf Tryz.prog 253 v = some kl → Maps.has D kl = true → D.atKey kl (.lit (.bool false)) = .lit (.bool true)
theorem SeenAt.start {W : World} {mb : Nat} (h : W.heap[mb]? = some (.map #[] 0)) : SeenAt W mb 0 (.map []) [] :=
 ⟨⟨#[], 0, h, ⟨by simp, MapKept.stamped_empty 0, by simp⟩, Nat.le_refl _, rfl⟩, ⟨_, rfl⟩, fun _ _ _ h => (by cases h), fun _ _ _ h => (by cases h)⟩
theorem zero_bool (w : World) : (zeroValue 4).run Tryz.prog w = .ok (.bool false) w := by kernel_rfl
theorem mkR_inv {v : Value} {b : Bool} {ps : List MemPlace} (h : mkR v = some (.lit (.bool b), ps)) : v = .bool b := by
 unfold mkR at h
 split at h
 ·simp at h; rw [h.1]
 ·simp at h; rw [h.1]
 ·cases h
theorem SeenAt.look {W : World} {mb k : Nat} {D : DataW Unit} {C : List ST} (h : SeenAt W mb k D C) {v : Value} {kl : Lit} (hk : keyOf Tryz.prog 253 v = some kl) :
  (Instr.lookup 249 (.map (some mb)) v false).run Tryz.prog W = .ok (.bool (Maps.has D kl)) W := by
 obtain ⟨x, ps, hr, hx⟩ := h.own.lookup seen_law Tryz.underlying249 (zero_bool W) (zd := .lit (.bool false)) (zp := []) rfl hk
 rw [hr]
 cases hh : Maps.has D kl with
 | false =>
  rw [Maps.atKey_of_not_has hh] at hx
  rw [mkR_inv hx]
 | true =>
  rw [h.vals v kl hk hh] at hx
  rw [mkR_inv hx]
theorem SeenAt.put {W : World} {mb k : Nat} {D : DataW Unit} {C : List ST} (h : SeenAt W mb k D C) {s : ST} {kl : Lit} (hk : keyOf Tryz.prog 253 (lnV s) = some kl) {W' : World} (ho : W'.ownsMap Tryz.prog 253 mkR mb (k + 1) (D.put kl (.lit (.bool true)))) : SeenAt W' mb (k + 1) (D.put kl (.lit (.bool true))) (C ++ [s]) := by
 refine ⟨ho, ?_, fun v l hv hl => ?_, fun v l hv hl => ?_⟩
 ·obtain ⟨es, rfl⟩ := h.isMap
  rw [DataW.put_eq]
  exact ⟨_, rfl⟩
 ·by_cases e : l = kl
  ·subst e
   exact ⟨s, by simp, (seen_law.inj hk hv)⟩
  ·rw [has_put_other e] at hl
   obtain ⟨c, hc, he⟩ := h.keys v l hv hl
   exact ⟨c, List.mem_append_left _ hc, he⟩
 ·by_cases e : l = kl
  ·subst e
   exact atKey_put_same h.isMap (seen_law.key hk) _ _
  ·rw [has_put_other e] at hl
   rw [atKey_put_other e]
   exact h.vals v l hv hl
theorem SeenAt.kept {W W' : World} {mb k : Nat} {D : DataW Unit} {C : List ST} (h : SeenAt W mb k D C) (hb : W'.heap[mb]? = W.heap[mb]?) : SeenAt W' mb k D C := by
 obtain ⟨⟨es, clock, h1, h2⟩, h3, h4, h5⟩ := h
 exact ⟨⟨es, clock, hb.trans h1, h2⟩, h3, h4, h5⟩
end Go.Proofs.YtgmpelhphnmknaaGreat
namespace Go.Proofs.YtgmpelhphnmknaaGreat
open Go Go.RowKit Go.Maps
def stC (C : List ST) : List Value := C.flatMap fun s => [.int .i64 s.sl, .int .i64 s.st, .int .i64 s.dn]
theorem stC_append (C : List ST) (s : ST) : stC (C ++ [s]) = stC C ++ [.int .i64 s.sl, .int .i64 s.st, .int .i64 s.dn] := by simp [stC, List.flatMap_append]
structure CorOk (t : Nat → RW) (n : Nat) (E C : List ST) : Prop where
 from' : ∀ c ∈ C, c ∈ E ∧ allB c t n = true
 all : ∀ s ∈ E, allB s t n = true → ∃ c ∈ C, lnV c = lnV s
theorem CorOk.start (t : Nat → RW) (n : Nat) : CorOk t n [] [] := ⟨fun c h => absurd h (by simp), fun c h => absurd h (by simp)⟩
theorem CorOk.skip {t : Nat → RW} {n : Nat} {E C : List ST} {x : ST} (h : CorOk t n E C) (hx : allB x t n = true → ∃ c ∈ C, lnV c = lnV x) : CorOk t n (E ++ [x]) C := by
 refine ⟨fun c hc => ⟨List.mem_append_left _ (h.from' c hc).1, (h.from' c hc).2⟩, fun s hs ha => ?_⟩
 rcases List.mem_append.1 hs with hs | hs
 ·exact h.all s hs ha
 ·obtain rfl : s = x := by simpa using hs
  exact hx ha
theorem CorOk.add {t : Nat → RW} {n : Nat} {E C : List ST} {x : ST} (h : CorOk t n E C) (hx : allB x t n = true) : CorOk t n (E ++ [x]) (C ++ [x]) := by
 refine ⟨fun c hc => ?_, fun s hs ha => ?_⟩
 ·rcases List.mem_append.1 hc with hc | hc
  ·exact ⟨List.mem_append_left _ (h.from' c hc).1, (h.from' c hc).2⟩
  ·obtain rfl : c = x := by simpa using hc
   exact ⟨by simp, hx⟩
 ·rcases List.mem_append.1 hs with hs | hs
  ·obtain ⟨c, h1, h2⟩ := h.all s hs ha
   exact ⟨c, List.mem_append_left _ h1, h2⟩
  ·obtain rfl : s = x := by simpa using hs
   exact ⟨s, by simp, rfl⟩
structure LinS (W : World) (A : Value) (n : Nat) (t : Nat → RW) (N0 ob mb : Nat) (X : Nat → Prop) (pre C : List ST) (v : Value) (k : Nat) (D : DataW Unit) : Prop where
 out : W.heap[ob]? = some (.cells #[A, v] 139)
 own : W.ownsRow N0 204 3 v C.length (stC C)
 mine : ∀ g, v.ownBlock = some g → X g
 seen : SeenAt W mb k D C
 cnt : k ≤ pre.length ∧ C.length ≤ pre.length
 cor : CorOk t n pre C
structure LinT (A : Value) (n : Nat) (t : Nat → RW) (N0 rb ob sb mb : Nat) (X : Nat → Prop) (pre : List ST) (W : World) : Prop where
 xr : X rb
 xo : X ob
 xs : X sb
 xm : X mb
 res : W.heap[rb]? = some (.cells #[.slice none 0 0, .slice none 0 0] 139)
 sbx : W.heap[sb]? = some (.cells #[.map (some mb)] 249)
 st : ∃ C v k D, LinS W A n t N0 ob mb X pre C v k D
theorem LinT.keep {A : Value} {n : Nat} {t : Nat → RW} {N0 rb ob sb mb : Nat} {X : Nat → Prop} {pre : List ST} {W W' : World} (h : LinT A n t N0 rb ob sb mb X pre W) (hk : ∀ b, X b → W'.heap[b]? = W.heap[b]?) : LinT A n t N0 rb ob sb mb X pre W' := by
 obtain ⟨xr, xo, xs, xm, h1, h2, C, v, k, D, h3⟩ := h
 exact ⟨xr, xo, xs, xm, (hk _ xr).trans h1, (hk _ xs).trans h2, C, v, k, D, (hk _ xo).trans h3.out, own_keep h3.own (fun g hg => hk g (h3.mine g hg)), h3.mine, h3.seen.kept (hk _ xm), h3.cnt, h3.cor⟩
theorem LinS.lt {W : World} {A : Value} {n : Nat} {t : Nat → RW} {N0 ob mb : Nat} {X : Nat → Prop} {pre C : List ST} {v : Value} {k : Nat} {D : DataW Unit} (h : LinS W A n t N0 ob mb X pre C v k D) : mb < W.heap.size := World.ownsMap.lt h.seen.own
theorem map_ne {W : World} {mb k : Nat} {D : DataW Unit} {C : List ST} (h : SeenAt W mb k D C) {b : Nat} {cs : Array Value} {t : TypeId} (hb : W.heap[b]? = some (.cells cs t)) : b ≠ mb := by
 rintro rfl
 obtain ⟨es, clock, h1, _⟩ := h.own
 rw [hb] at h1
 cases h1
theorem LinS.add {A : Value} {n : Nat} {t : Nat → RW} {N0 rb ob sb mb : Nat} {X R O : Nat → Prop} {pre C : List ST} {v v' : Value} {k N : Nat} {D : DataW Unit} {W W4 W5 W7 : World} {x : ST} {kl : Lit} {tmp : Obj}
  (hm : MineN N R X O W) (hT : LinT A n t N0 rb ob sb mb X pre W) (hS : LinS W A n t N0 ob mb X pre C v k D) (hmb : mb < N) (hro : rb ≠ ob) (hb4 : Below W.heap.size W W4) (hk : keyOf Tryz.prog 253 (lnV x) = some kl)
  (h5 : W5.ownsMap Tryz.prog 253 mkR mb (k + 1) (D.put kl (.lit (.bool true)))) (hg5 : W4.grownBy W5 (some mb))
  (h7 : W7.ownsRow N0 204 3 v' (C.length + 1) (stC C ++ [.int .i64 x.sl, .int .i64 x.st, .int .i64 x.dn])) (hg7 : (W5.alloc tmp).grownBy W7 v.ownBlock) (hat : v'.ownBlock = v.ownBlock ∨ v'.ownBlock = some (W5.alloc tmp).heap.size)
  (hall : allB x t n = true) :
  ∃ X', StepN N X W (W7.setCell ⟨ob, 1, none⟩ v') X' ∧ LinT A n t N0 rb ob sb mb X' (pre ++ [x]) (W7.setCell ⟨ob, 1, none⟩ v') := by
 have hl6 : (W5.alloc tmp).heap.size = W5.heap.size + 1 := by simp
 have s4 := hb4.size
 have s5 := hg5.size
 have s7 := hg7.size
 have hXl : ∀ b, X b → b < W.heap.size := fun b hb => hm.lt hb
 have ob_mb : ob ≠ mb := map_ne hS.seen hS.out
 have rb_mb : rb ≠ mb := map_ne hS.seen hT.res
 have sb_mb : sb ≠ mb := map_ne hS.seen hT.sbx
 have nob := own_off hS.own hS.out (by decide)
 have nrb := own_off hS.own hT.res (by decide)
 have nsb := own_off hS.own hT.sbx (by decide)
 have nmb : v.ownBlock ≠ some mb := fun e => by
  obtain ⟨es, clock, h1, _⟩ := hS.seen.own
  rcases hS.own.2 with ⟨rfl, _⟩ | ⟨g, cap, cur, rfl, _, hg, _⟩
  ·cases e
  ·simp only [Value.ownBlock, Option.some.injEq] at e
   subst e
   rw [h1] at hg
   cases hg
 -- a block that is neither the map nor the row's
 have hkeep : ∀ b, b < W.heap.size → b ≠ mb → v.ownBlock ≠ some b → W7.heap[b]? = W.heap[b]? := fun b hb h1 h2 =>
  (hg7.block b (by omega) (fun e => h2 e.symm)).trans (((al_below W5 tmp).block b (by omega)).trans ((hg5.block b (by omega) (fun e => h1 (Option.some.inj e))).trans (hb4.block b hb)))
 have hob7 := (hkeep ob (hXl ob hT.xo) ob_mb nob).trans hS.out
 have nob' := own_off h7 hob7 (by decide)
 have hmb7 : W7.heap[mb]? = W5.heap[mb]? := (hg7.block mb (by have := hS.lt; omega) (fun e => nmb e.symm)).trans ((al_below W5 tmp).block mb (by have := hS.lt; omega))
 have hset : ∀ b, b ≠ ob → (W7.setCell ⟨ob, 1, none⟩ v').heap[b]? = W7.heap[b]? := fun b hb => heap_setCell_other W7 ⟨ob, 1, none⟩ b v' hb
 have own8 : (W7.setCell ⟨ob, 1, none⟩ v').ownsRow N0 204 3 v' (C.length + 1) (stC C ++ [.int .i64 x.sl, .int .i64 x.st, .int .i64 x.dn]) := own_keep h7 (fun g hg => hset g (fun e => nob' (by rw [hg, e])))
 have cells7 : ∀ b, v'.ownBlock = some b → ∃ o, W7.heap[b]? = some o ∧ o.isCells = true := fun b hb => by
  rcases h7.2 with ⟨rfl, _⟩ | ⟨g, cap, cur, rfl, _, hg, _⟩
  ·cases hb
  ·simp only [Value.ownBlock, Option.some.injEq] at hb
   subst hb
   exact ⟨_, hg, rfl⟩
 have set8 : (W7.setCell ⟨ob, 1, none⟩ v').heap[ob]? = some (.cells #[A, v'] 139) := by
  have := heap_setCell_same W7 ob 1 _ _ v' hob7
  simpa using this
 refine ⟨fun b => (X b ∧ v.ownBlock ≠ some b) ∨ v'.ownBlock = some b, ⟨hg7.os.trans (hg5.os.trans hb4.os), hg7.tape.trans (hg5.tape.trans hb4.tape), hg7.output.trans (hg5.output.trans hb4.output), by simp [World.setCell]; omega, fun b hb hx => ?_, fun b hb => ?_, fun b hb => ?_⟩, ?_⟩
 ·have h1 : b ≠ ob := fun e => hx (by rw [e]; exact hT.xo)
  rw [hset b h1]
  exact hkeep b hb (fun e => hx (by rw [e]; exact hT.xm)) (fun e => hx (hS.mine b e))
 ·rcases hb with hb | hb
  ·exact .inl hb.1
  ·rcases hat with h | h
   ·exact .inl (hS.mine b (by rw [← h]; exact hb))
   ·right
    rw [h] at hb
    injection hb with hb
    omega
 ·by_cases e : b = ob
  ·subst e
   exact ⟨_, set8, .inl rfl⟩
  ·rw [hset b e]
   rcases hb with ⟨hb, hv⟩ | hb
   ·by_cases e2 : b = mb
    ·subst e2
     obtain ⟨es, clock, h1, _⟩ := h5
     exact ⟨_, hmb7.trans h1, .inr hmb⟩
    ·obtain ⟨o, h1, h2⟩ := hm.cells b hb
     exact ⟨o, (hkeep b (hXl b hb) e2 hv).trans h1, h2⟩
   ·obtain ⟨o, h1, h2⟩ := cells7 b hb
    exact ⟨o, h1, .inl h2⟩
 ·refine ⟨.inl ⟨hT.xr, nrb⟩, .inl ⟨hT.xo, nob⟩, .inl ⟨hT.xs, nsb⟩, .inl ⟨hT.xm, nmb⟩, ?_, ?_, C ++ [x], v', k + 1, _, set8, ?_, fun g hg => .inr hg, (hS.seen.put hk h5).kept ?_, ?_, hS.cor.add hall⟩
  ·rw [hset rb hro, hkeep rb (hXl rb hT.xr) rb_mb nrb]
   exact hT.res
  ·by_cases e : sb = ob
   ·subst e
    exfalso
    have h1 := hT.sbx
    rw [hS.out] at h1
    simp at h1
   ·rw [hset sb e, hkeep sb (hXl sb hT.xs) sb_mb nsb]
    exact hT.sbx
  ·rw [stC_append, List.length_append]
   exact own8
  ·rw [hset mb (Ne.symm ob_mb)]
   exact hmb7
  ·have := hS.cnt
   simp only [List.length_append, List.length_cons, List.length_nil]
   omega
theorem LinT.skip {A : Value} {n : Nat} {t : Nat → RW} {N0 rb ob sb mb : Nat} {X R O : Nat → Prop} {pre C : List ST} {v : Value} {k N : Nat} {D : DataW Unit} {W W4 : World} {x : ST}
  (hm : MineN N R X O W) (hT : LinT A n t N0 rb ob sb mb X pre W) (hS : LinS W A n t N0 ob mb X pre C v k D) (hb4 : Below W.heap.size W W4) (hx : allB x t n = true → ∃ c ∈ C, lnV c = lnV x) :
  ∃ X', StepN N X W W4 X' ∧ LinT A n t N0 rb ob sb mb X' (pre ++ [x]) W4 := by
 have hk : ∀ b, X b → W4.heap[b]? = W.heap[b]? := fun b hb => hb4.block b (hm.lt hb)
 refine ⟨X, StepN.below hm hb4, hT.xr, hT.xo, hT.xs, hT.xm, (hk _ hT.xr).trans hT.res, (hk _ hT.xs).trans hT.sbx, C, v, k, D, (hk _ hT.xo).trans hS.out, own_keep hS.own (fun g hg => hk g (hS.mine g hg)), hS.mine, hS.seen.kept (hk _ hT.xm), ?_, hS.cor.skip hx⟩
 have := hS.cnt
 rw [List.length_append]
 exact ⟨by omega, by omega⟩
end Go.Proofs.YtgmpelhphnmknaaGreat
namespace Go.Proofs.YtgmpelhphnmknaaGreat
open Go.RowKit Go.Shelf
theorem wp_seqB {α : Type} {P : Program} {g : Operand} {ps : Array Tmp} {assign body : Code} {Q : Exit → Act → World → Prop} {a : Act} {w : World} {gf : Nat} {lb : Array Value} {encs : α → Array Value} {R : Nat → Prop} {Nx : List α → α → Prop} {S Sp : List α → Prop}
  (hg : a.eval g = .func (.func gf) #[] lb) (eg : ∀ args w, (callFunc gf args).run P w = .ok (.enter gf args) w) (hseq : SeqOwn P gf lb encs R (fun _ _ _ => True) Nx S Sp w) (hR : ∀ b, R b → b < w.heap.size)
  (w0 : World) (hw : Below w0.heap.size w0 w) (hps : ∀ x, (encs x).size = ps.size)
  (X0 : Nat → Prop) (hX0 : ∀ b, X0 b → w0.heap.size ≤ b ∧ ¬ R b ∧ b < w.heap.size)
  (T : (Nat → Prop) → List α → World → Prop) (hT : ∀ X xs W W', T X xs W → (∀ b, X b → W'.heap[b]? = W.heap[b]?) → T X xs W')
  (h0 : T X0 [] w) (a1 : α → Nat → Act) (obj : α → Obj)
  (hassign : ∀ (l : Nat) (x : α) (W : World) (K : Act → World → Prop), K (a1 x W.heap.size) (W.alloc (obj x)) → assign.wpIn (Fence.wide.inRound l) 4 P (Exit.then K (fun _ _ _ => False)) { tmps := (ps.zip (encs x)).foldl (fun t (p, v) => t.setIfInBounds p v) a.tmps, defers := [] } W)
  (hbody : ∀ (l : Nat) (pre : List α) (x : α) (O X : Nat → Prop) (W : World) (q : Nat), w.heap.size ≤ W.heap.size → W.heap[q]? = some (obj x) → MineN w.heap.size R X O W → T X pre W → Below w0.heap.size w0 W → (∀ b, R b → W.heap[b]? = w.heap[b]?) → Nx pre x → body.wpIn (Fence.wide.inRound l) 4 P (roundPostN w.heap.size X T (pre ++ [x]) W) (a1 x q) W)
  (hdone : ∀ (D : Nat) (xs : List α) (X : Nat → Prop) (W : World), w.heap.size ≤ D → D < W.heap.size → ¬ X D → S xs → T X xs W → Below w0.heap.size w0 W → (∀ b, R b → W.heap[b]? = w.heap[b]?) → W.heap[D]? = some (.deferred (some [])) → Q .normal { a with defers := { target := .collected D, args := #[] } :: a.defers } W) :
  (Code.rangeFunc g ps assign body).wp P Q a w := by
 refine (wpIn_wide (n := 6)).1 ?_
 have hN : w0.heap.size ≤ w.heap.size := hw.size
 let I : List α → (Nat → Prop) → World → Prop := fun xs O W => LoopN R w0 w.heap.size T xs O W ∧ ((∀ b, R b → W.heap[b]? = w.heap[b]?) ∧ w.heap.size ≤ W.heap.size)
 let Ix : Code → List α → (Nat → Prop) → World → Prop := fun c xs O W => False
 have hRa : ∀ O W O' W', (∀ b, O b → w.heap.size ≤ b) → ((∀ b, R b → W.heap[b]? = w.heap[b]?) ∧ w.heap.size ≤ W.heap.size) → Turn O W O' W' → (∀ b, R b → W'.heap[b]? = w.heap[b]?) ∧ w.heap.size ≤ W'.heap.size := fun O W O' W' hO h tn =>
  ⟨fun b hb => (tn.block b (by have := hR b hb; omega) (fun h1 => by have := hO b h1; have := hR b hb; omega)).trans (h.1 b hb), Nat.le_trans h.2 tn.size⟩
 refine wpIn_range_own (P := P) (g := g) hg eg hseq hR (Below.refl _ _) hps
  (fun _ _ _ _ _ _ _ => trivial) I Ix ?hI (fun c => fun _ _ _ _ _ h _ => h) ?hIb (fun c => fun _ _ _ _ _ _ h _ _ _ => h) ?h0 (fun x a' O W => ∃ q, a' = a1 x q ∧ W.heap[q]? = some (obj x) ∧ w.heap.size + 2 ≤ q) ?hAx ?hassign ?hbody ?hdone ?hstop
 case hI =>
  rintro xs O W O' W' ⟨h1, h2⟩ tn
  obtain ⟨X, hm, ht, hb, hO, hX, hz⟩ := id h1
  exact ⟨LoopN.abide hN hT _ _ _ _ _ h1 tn, hRa _ _ _ _ hO h2 tn⟩
 case hIb =>
  rintro xs O W l o o' ⟨h1, h2⟩ hl ho hc
  exact ⟨LoopN.booked hN hT _ _ _ _ _ _ h1 hl ho hc, ⟨fun b hb => (World.putObj_heap_other (by have := hR b hb; omega)).trans (h2.1 b hb), by simpa using h2.2⟩⟩
 case hAx =>
  rintro x a' O W l o' ⟨q, h1, h2, h3⟩ rfl
  exact ⟨q, h1, (World.putObj_heap_other (by omega)).trans h2, h3⟩
 case h0 =>
  intro W hb
  have hk : ∀ b, X0 b → W.heap[b]? = w.heap[b]? := fun b hx => hb.block b (hX0 b hx).2.2
  exact ⟨⟨X0, ⟨fun b _ h => h, fun b hx => (hX0 b hx).2.1, fun b hx => by
   have hl := (hX0 b hx).2.2
   exact ⟨w.heap[b], (hk b hx).trans (Array.getElem?_eq_getElem hl), .inr hl⟩⟩, hT _ _ _ _ h0 hk, hw.trans (hb.mono hw.size), fun b h => h.elim, fun b hx => (hX0 b hx).1, hb.size⟩, ⟨fun b h => hb.block b (hR b h), hb.size⟩⟩
 case hassign =>
  rintro l pre x O W K hz hO hI hsh hK
  refine hassign l x W K (hK _ _ ?_ ?_ ?_ ⟨_, rfl, heap_alloc_new W _, hz⟩ hsh)
  ·exact ⟨by simp, fun k o _ hk _ => (Below.heap_alloc W (obj x) k (blkL hk)).trans hk⟩
  ·refine Kept.alloc (Kept.refl _ _) (fun b hb => ?_) _
   rcases hb with hb | hb
   ·exact (hO b hb).2
   ·have := hR b hb; omega
  ·obtain ⟨⟨X, hm, ht, hb, hOn, hX, hzz⟩, hrr, hww⟩ := hI
   have hk : ∀ b, b < W.heap.size → (W.alloc (obj x)).heap[b]? = W.heap[b]? := fun b hb => Below.heap_alloc W (obj x) b hb
   refine ⟨⟨X, ⟨hm.off, hm.rest, fun b hb => ?_⟩, hT _ _ _ _ ht (fun b hb => hk b (hm.lt hb)), hb.trans (((Below.refl _ W).alloc (Nat.le_refl _) _).mono hb.size), hOn, hX, by simp; omega⟩, fun b hb => (hk b (by have := hR b hb; omega)).trans (hrr b hb), by simp; omega⟩
   obtain ⟨o, h1, h2⟩ := hm.cells b hb
   exact ⟨o, (hk b (hm.lt hb)).trans h1, h2⟩
 case hbody =>
  rintro l pre x a' O W hl hz hO ⟨⟨X, hm, ht, hb, hOn, hX, hzz⟩, ⟨hrr, hww⟩⟩ ⟨q, rfl, hq, _⟩ hsh hnx
  have hOl : ∀ b, O b → b < W.heap.size := fun b h => (hO b h).2
  have hRl : ∀ b, R b → b < W.heap.size := fun b h => by have := hR b h; omega
  have hX' : ∀ W' X', StepN w.heap.size X W W' X' → ∀ b, X' b → w0.heap.size ≤ b := fun W' X' st b hx => (st.new b hx).elim (hX b) (fun h => by have := hb.size; omega)
  refine wpIn_mono (hbody l pre x O X W q hww hq hm ht hb hrr hnx) ?_
  intro e a' W' hp
  cases e with
  | normal =>
   obtain ⟨X', st, h1⟩ := hp
   have mn := st.mine hm hOl hRl
   exact ⟨st.keepsFrom hm, st.kept hm hOl hRl, ⟨X', mn, h1, st.bel hX hb, hOn, hX' _ _ st, Nat.le_trans hzz st.size⟩, ⟨fun b h => (st.block b (hRl b h) (fun hx => hm.rest b hx h)).trans (hrr b h), Nat.le_trans hww st.size⟩⟩
  | _ => exact hp.elim
 case hdone =>
  rintro D xs O W hD hDO hS ⟨⟨X, hm, ht, hb, hOn, hX, hzz⟩, ⟨hrr, hww⟩⟩ hDD
  have hlt : D < W.heap.size := (blkL hDD)
  refine hdone D xs X W hD hlt (fun hx => ?_) hS ht hb hrr hDD
  obtain ⟨u, h1, h2⟩ := hm.cells D hx
  rw [hDD] at h1
  injection h1 with h1
  rcases h2 with h2 | h2
  ·rw [← h1] at h2
   cases h2
  ·omega
 case hstop =>
  rintro D c pre O W hD hDO hxs h hDD
  exact h.elim
end Go.Proofs.YtgmpelhphnmknaaGreat
