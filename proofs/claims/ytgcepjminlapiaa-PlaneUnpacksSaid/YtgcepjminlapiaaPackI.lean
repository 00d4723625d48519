/- The walk of unpack where a file's head and check are right. -/
import Derived.Test.YtgcepjminlapiaaPackH
namespace Go.Proofs.Ytgcepjminlapiaa
open Go.RowKit
set_option linter.unusedVariables false
set_option linter.unusedSimpArgs false
/-- what unpack hands back -/
def UnpRes (w : World) (l : List Nat) (e : Ending) (w' : World) : Prop :=
  ∃ v ok, e = .returned (.tuple #[v, .bool ok]) ∧ Below w.heap.size w w' ∧ (∃ a n c, v = .slice a n c) ∧ ((unpL l = none ∧ ok = false) ∨ ∃ L, unpL l = some L ∧ ok = true ∧ w'.ownsRow w.heap.size 26 6 v L.length (hC L))
def restLen (pb : Nat) (W : World) : Nat := match W.cell? ⟨pb, 0, none⟩ with
  | some (.slice _ n _) => n
  | _ => 0
theorem own_slice {w : World} {base : Nat} {e : TypeId} {k : Nat} {v : Value} {n : Nat} {xs : List Value} (h : w.ownsRow base e k v n xs) : ∃ a c, v = .slice a n c ∧ True := by
  obtain ⟨a, c, h⟩ := own_len h; exact ⟨a, c, h, trivial⟩
theorem info_hit : (Try.prog.info? 26).map (fun i => (i.zero, i.size, i.bytes)) = some (some (.agg #[.int .i64 0, .int .i64 0, .int .i64 0, .int .i64 0, .int .i64 0, .int .i64 0]), 6, 48) := by kernel_rfl
theorem US.rest {w : World} {hb ob pb b off C : Nat} {l : List Nat} {L : List HV} {v : Value} {k : Nat} {W : World} (h : US w hb ob pb b off C l L v k W) : restLen pb W = l.length - k := by
  unfold restLen; rw [h.cells.2.2.2.2]
theorem US.fin {w : World} {hb ob pb b off C : Nat} {l : List Nat} {L : List HV} {v : Value} {k : Nat} {W : World} (c : UC w hb ob pb b off C l) (h : US w hb ob pb b off C l L v k W) (y : Bool) :
    (((W.setCell ⟨hb, 0, none⟩ v).setCell ⟨ob, 0, none⟩ (.bool y)).drew).cell? ⟨hb, 0, none⟩ = some v ∧ (((W.setCell ⟨hb, 0, none⟩ v).setCell ⟨ob, 0, none⟩ (.bool y)).drew).cell? ⟨ob, 0, none⟩ = some (.bool y) ∧ Below w.heap.size w (((W.setCell ⟨hb, 0, none⟩ v).setCell ⟨ob, 0, none⟩ (.bool y)).drew) ∧ (((W.setCell ⟨hb, 0, none⟩ v).setCell ⟨ob, 0, none⟩ (.bool y)).drew).ownsRow w.heap.size 26 6 v L.length (hC L) := by
  have g1 := (heap_setCell_other (W.setCell ⟨hb, 0, none⟩ v) ⟨ob, 0, none⟩ hb (.bool y) c.ho).trans (heap_setCell_same W hb 0 _ _ v h.hbox)
  have g2 := heap_setCell_same (W.setCell ⟨hb, 0, none⟩ v) ob 0 _ _ (.bool y) ((heap_setCell_other W ⟨hb, 0, none⟩ ob v (Ne.symm c.ho)).trans h.obox)
  exact ⟨cell_of_row _ _ _ _ _ _ g1, cell_of_row _ _ _ _ _ _ g2, ((h.below.setCell (p := ⟨hb, 0, none⟩) c.h _).setCell (p := ⟨ob, 0, none⟩) c.o _).drew, (ownsRow_setCell_other (ownsRow_setCell_other h.own (own_off h.own h.hbox (by decide)) v) (own_off h.own h.obox (by decide)) (.bool y)).drew⟩
theorem hv_one {h : HV} : ∀ u ∈ h.cells, u.oneCell' = true := by
  intro u hu
  simp [HV.cells] at hu
  rcases hu with rfl | rfl | rfl | rfl | rfl | rfl <;> rfl
theorem unzig_bound {x : Nat} (h : x < 34359738368) : -34359738368 ≤ unzig (x : Int) ∧ unzig (x : Int) ≤ 34359738368 := by unfold unzig; split <;> omega
theorem US.both {w : World} {hb ob pb b off C : Nat} {l : List Nat} {L : List HV} {v : Value} {k : Nat} {W : World} (c : UC w hb ob pb b off C l) (h : US w hb ob pb b off C l L v k W) : Calls Try.prog 89 #[.pointer (some ⟨pb, 0, none⟩)] W fun e W' => (e = .panicked wrongP ∧ UP w hb ob v W' ∧ tkP l k = none) ∨ ∃ (x k' : Nat), e = .returned (.int .i64 (x : Int)) ∧ US w hb ob pb b off C l L v k' W' ∧ W.grownBy W' (some pb) ∧ tkP l k = some (x, k') := by
  cases ht : tkP l k with
  | none => exact (h.bad c ht).mono fun e W' ⟨h1, h2⟩ => .inl ⟨h1, h2, rfl⟩
  | some q => exact (h.ok c ht).mono fun e W' ⟨h1, h2, h3⟩ => .inr ⟨q.1, q.2, h1, h2, h3, rfl⟩
set_option maxRecDepth 100000 in
set_option maxHeartbeats 2000000 in
theorem unpack_ok (b off n c : Nat) (f : Nat → Nat) (w : World) (hb : b < w.heap.size) (hc : ∀ i, i < n → w.cell? ⟨b, off + i, none⟩ = some (.int .u8 (f i : Int))) (hf : ∀ i, i < n → f i < 256) (h7 : 7 ≤ n) (hn : n ≤ 1000) (hnc : n ≤ c) (hcm : c ≤ maxLen) (hs : headOk f n)
    (l : List Nat) (hl : l.length = n - 2) (hlf : ∀ i, i < n - 2 → l.getD i 0 = f i) : Calls Try.prog 72 #[.slice (some ⟨b, off, none⟩) n c] w (UnpRes w l) := by
  have hmf : ∀ (fn : Fn) (first cap : Array Value) (w : World), (Instr.makeFunc fn first cap).run Try.prog w = .ok (.func fn first cap) w := fun _ _ _ _ => rfl
  have HCS0 := Lib.hid (fun (pb : Nat) (hpb : w.heap.size + 2 ≤ pb) => show UC w w.heap.size (w.heap.size + 1) pb b off c l from ⟨fun x hx => (by
      obtain ⟨i, hi, rfl⟩ := List.getElem_of_mem hx
      have e := hlf i (by omega)
      rw [List.getD_eq_getElem?_getD, List.getElem?_eq_getElem hi] at e
      have e2 : l[i] = f i := e
      rw [e2]; exact hf i (by omega)), by omega, hcm, hb, by omega, by omega, by omega, by omega, by omega, by omega, fun i hi => by rw [hlf i (by omega)]; exact hc i (by omega)⟩)
  unfold maxLen at hcm
  obtain ⟨⟨g0, g1, g2, g3⟩, s0, s1⟩ := hs
  have hconv := fun (o1 o2 : Obj) (c' : Nat) => run_head (P := Try.prog) ((w.alloc o1).alloc o2) 70 9 5 Try.underlying70 Try.underlying5 Try.underlying9 b off c' (u8 (f 0)) (u8 (f 1)) (u8 (f 2)) (u8 (f 3)) (by rw [cell_two hb, u8_toNat (hf 0 (by omega))]; exact hc 0 (by omega)) (by rw [cell_two hb, u8_toNat (hf 1 (by omega))]; exact hc 1 (by omega)) (by rw [cell_two hb, u8_toNat (hf 2 (by omega))]; exact hc 2 (by omega)) (by rw [cell_two hb, u8_toNat (hf 3 (by omega))]; exact hc 3 (by omega))
  rw [g0, g1, g2, g3] at hconv
  have h1 : ¬ (n : Int) < 7 := by omega
  have h2 : (4 : Int) ≤ (c : Int) := by omega
  have HC := Lib.hid hc
  have HF := Lib.hid hf
  clear hc hf g0 g1 g2 g3
  go_enter_defers Try.func72, Try.ntmps72
  go_upto_region 5 with (fail)
  have p0 : w.cell? ⟨b, off + (n - 2), none⟩ = some (.int .u8 (f (n - 2) : Int)) := HC.out (n - 2) (by omega)
  have p1 : w.cell? ⟨b, off + (n - 2) + 1, none⟩ = some (.int .u8 (f (n - 1) : Int)) := by have := HC.out (n - 1) (by omega); rw [show off + (n - 2) + 1 = off + (n - 1) by omega]; exact this
  have HBy := Lib.hid (show Bytes w.heap.size w (some ⟨b, off, none⟩) (n - 2) f from .inr ⟨b, off, rfl, hb, fun i hi => HC.out i (by omega)⟩)
  have HFB := Lib.hid (fun i (hi : i < n - 2) => HF.out i (by omega))
  have HAL := Lib.hid (show Below w.heap.size w ((w.alloc (.cells #[.slice none 0 0] 65)).alloc (.cells #[.bool false] 4)) from ((Below.refl _ _).alloc (Nat.le_refl _) _).alloc (by simp) _)
  have hbz : b < w.heap.size + 2 := by omega
  have hn2 : n - 2 ≤ 2000 := by omega
  obtain ⟨ck, hck⟩ : ∃ x, x = chkN f (n - 2) := ⟨_, rfl⟩
  have HCK := Lib.hid hck
  rw [← s0] at p0
  rw [← s1] at p1
  rw [← hck] at p0 p1
  clear hck s0 s1
  have i1 : IntKind.i64.wrap ((n : Int) - 2) = (n : Int) - 2 := IntWalk.i64_in _ (by omega)
  have i2 : (2 : Int) ≤ (n : Int) := by omega
  have i3 : (n : Int) - 2 ≤ (n : Int) := by omega
  have i4 : ((n : Int) - 2).toNat = n - 2 := by omega
  have i5 : ¬ (c : Int) - ((n : Int) - 2) = 0 := by omega
  have i6 : ¬ c - (n - 2) = 0 := by omega
  have i7 : n - (n - 2) = 2 := by omega
  have i8 : (n : Int) ≤ (c : Int) := by omega
  have i9 : ¬ c ≤ n - 2 := by omega
  have hneq := fun (W : World) (x0 x1 y0 y1 : Int) => neq_pair W x0 x1 y0 y1
  have harr := fun (W : World) (a : Addr) (c' : Nat) => run_arrayAt (P := Try.prog) W 114 5 a c' Try.underlying114
  have HCH := Lib.hid (fun (W : World) (h2 : Below w.heap.size w W) => show Calls Try.prog 68 #[.slice (some ⟨b, off, none⟩) (n - 2) c] W (fun e w' => e = .returned (.agg #[.int .u8 ((ck : Int) / 256), .int .u8 ((ck : Int) % 256)]) ∧ Below W.heap.size W w') from by
    have h3 := check16_any (some ⟨b, off, none⟩) (n - 2) c f W w.heap.size h2.size (HBy.out.below h2) HFB.out hn2
    rw [← HCK.out] at h3
    simpa using h3)
  have p0' : w.cell? ⟨b, off + (n - 2), none⟩ = some (.int .u8 ((ck : Int) / 256)) := by simpa using p0
  have p1' : w.cell? ⟨b, off + (n - 2) + 1, none⟩ = some (.int .u8 ((ck : Int) % 256)) := by simpa using p1
  clear p0 p1
  (refine wp_region_calm (w.heap.size + 2) (by kernel_rfl) (by kernel_rfl) ?_; (repeat (first | go_big_quiet_step ((go_at_call 68; exact Calls.calm_of (by simp) (HCH.out _ (HAL.out.trans (Below.mono (Calm.below _) (by omega)))))) | quiet_step ((go_at_call 68; exact Calls.calm_of (by simp) (HCH.out _ (HAL.out.trans (Below.mono (Calm.below _) (by omega)))))))); refine wpQuiet_nil ?_; intro _ hw'; obtain ⟨xq, hw''⟩ := hw'; subst hw'')
  clear p0' p1' i5 i6 i7 i9 hneq harr HCH
  go_upto_region 9 with (fail)
  have hBx : Below w.heap.size w xq.val := HAL.out.trans (xq.below.mono (by omega))
  have hsz : w.heap.size + 2 ≤ xq.val.heap.size := by have := xq.below.size; simpa using this
  have CS := HCS0.out xq.val.heap.size hsz
  have HS := Lib.hid (show US w w.heap.size (w.heap.size + 1) xq.val.heap.size b off c l [] (.slice none 0 0) 4 (xq.val.alloc (.cells #[.slice (some ⟨b, off + 4, none⟩) (n - 2 - 4) (c - 4)] 70)) from
    ⟨hBx.alloc hBx.size _, World.ownsRow_nil _ _ _ _, (heapQ_old (by omega)).trans ((xq.below.block _ (by omega)).trans (heapQ_2_0 _ _ _)), (heapQ_old (by omega)).trans ((xq.below.block _ (by omega)).trans (heapQ_2_1 _ _ _)), by rw [heapQ_new rfl, hl], by omega⟩)
  have HVS := Lib.hid (show ∃ a n c, (Value.slice none 0 0) = .slice a n c from ⟨none, 0, 0, rfl⟩)
  clear hBx hsz HCS0 HAL HBy HFB HCK HC HF
  generalize xq.val.alloc (.cells #[.slice (some ⟨b, off + 4, none⟩) (n - 2 - 4) (c - 4)] 70) = W0 at *
  generalize xq.val.heap.size = pb at *
  have HR1 := Lib.hid (fun (e : Ending) (w' : World) (hn : unpL l = none) (he : e = .returned (.tuple #[.slice none 0 0, .bool false])) (hb : Below w.heap.size w w') => show UnpRes w l e w' from ⟨_, _, he, hb, ⟨_, _, _, rfl⟩, .inl ⟨hn, rfl⟩⟩)
  have HR2 := Lib.hid (fun (e : Ending) (w' : World) (v : Value) (L : List HV) (hv : ∃ a n c, v = .slice a n c) (hn : unpL l = some L) (he : e = .returned (.tuple #[v, .bool true])) (hb : Below w.heap.size w w') (ho : w'.ownsRow w.heap.size 26 6 v L.length (hC L)) => show UnpRes w l e w' from ⟨_, _, he, hb, hv, .inr ⟨L, hn, rfl, ho⟩⟩)
  have HR3 := Lib.hid (fun (e : Ending) (w' : World) (v : Value) (hv : ∃ a n c, v = .slice a n c) (hn : unpL l = none) (he : e = .returned (.tuple #[v, .bool false])) (hb : Below w.heap.size w w') => show UnpRes w l e w' from ⟨_, _, he, hb, hv, .inl ⟨hn, rfl⟩⟩)
  generalize hRes : UnpRes w l = Res at *
  clear hRes
  cases h4 : tkP l 4 with
  | none =>
    have HT := Lib.hid h4
    have HN := Lib.hid (unpL_none1 h4)
    clear h4
    go_wp2_with (go_at_call 89; refine (US.bad CS HS.out HT.out).mono ?_; rintro e W' ⟨rfl, hP⟩; clear HS HT)
    (refine leaves_cons (f := 88) (args := #[.pointer (some ⟨w.heap.size, 0, none⟩), .pointer (some ⟨w.heap.size + 1, 0, none⟩)]) (by simp) (by simp [go_sem]) ?_; refine (catch_wrong w.heap.size (w.heap.size + 1) _ _ (by omega) hP.hbox hP.obox HVS.out).mono ?_; rintro e u' w'' ⟨rfl, rfl, hx1, hx2, hx3⟩)
    have hy1 := cell_of_row _ _ 0 _ _ _ hx1
    have hy2 := cell_of_row _ _ 0 _ _ _ hx2
    have hy3 := hx3 w.heap.size w (by omega) (by omega) hP.below
    clear hx1 hx2 hx3
    simp [Leaves, settle, results, Try.results72, go_sem, hy1, hy2]
    exact HR1.out _ _ HN.out rfl hy3
  | some q =>
    obtain ⟨many, k0⟩ := q
    have HT := Lib.hid h4
    have H4 := Lib.hid h4
    have hmany := (tkP_fits CS.bytes h4).1
    clear h4
    go_upto_region 10 with (go_at_call 89; refine (US.ok CS HS.out HT.out).mono ?_; rintro e W' ⟨rfl, hS', hgr⟩; clear HS HT; have HS := Lib.hid hS'; clear hS')
    clear hgr HVS
    generalize W' = W1 at *
    go_wp2
    go_loopw [8] (fun s8 wr => ∃ (L : List HV) (va : Option Addr) (vc : Nat) (last : Int) (k : Nat), s8 = .int .i64 last ∧ Hid (HsInv l many k0 L last k) ∧ (6 * L.length ≤ k ∧ -(34359738368 * (L.length : Int)) ≤ last ∧ last ≤ 34359738368 * (L.length : Int)) ∧ Hid (US w w.heap.size (w.heap.size + 1) pb b off c l L (.slice va L.length vc) k wr)) (fun _ wr => restLen pb wr)
    case atStart => exact ⟨[], none, 0, 0, k0, rfl, Lib.hid (hs_start _ _ _), ⟨by simp, by simp, by simp⟩, HS⟩
    case round =>
      clear HS
      obtain ⟨L, va, vc, last, k, rfl, HI, ⟨hL1, hL2, hL3⟩, HS⟩ := hrel
      have HVS := Lib.hid (show ∃ a n c, (Value.slice va L.length vc) = .slice a n c from ⟨_, _, _, rfl⟩)
      obtain ⟨c1, c2, c3, c4, c5⟩ := HS.out.cells
      have hkl := HS.out.le
      have HRL := Lib.hid (US.rest HS.out)
      have hLl : L.length ≤ 1000 := by omega
      have hwz := HS.out.below.size
      by_cases hlt : L.length < many
      · have hlt' : (L.length : Int) < (many : Int) := by omega
        have M0 : True := trivial
        go_upto_region 13 with (first | (have _ := M0; go_at_call 89; refine (US.both CS (HS.out)).mono ?_; rintro e W' (⟨rfl, hP, t0⟩ | ⟨x0, k1, rfl, hS', hgr, t0⟩); (· (have HF := Lib.hid (show hitP l last k = none by simp only [hitP,  t0, Option.bind_some, Option.bind_none]); go_wp2; ((refine leaves_cons (f := 88) (args := #[.pointer (some ⟨w.heap.size, 0, none⟩), .pointer (some ⟨w.heap.size + 1, 0, none⟩)]) (by simp) (by simp [go_sem]) ?_; refine (catch_wrong w.heap.size (w.heap.size + 1) _ _ (by omega) hP.hbox hP.obox HVS.out).mono ?_; rintro e u' w'' ⟨rfl, rfl, hx1, hx2, hx3⟩); have hy1 := cell_of_row _ _ 0 _ _ _ hx1; have hy2 := cell_of_row _ _ 0 _ _ _ hx2; have hy3 := hx3 w.heap.size w (by omega) (by omega) hP.below; clear hx1 hx2 hx3; simp [Leaves, settle, results, Try.results72, go_sem, hy1, hy2]; exact HR1.out _ _ (unpL_none2 H4.out (hs_fail HI.out hlt HF.out)) rfl hy3))); have M1 : True := trivial; clear HS M0; have HS := Lib.hid hS'; have HT0 := Lib.hid t0; clear hS' t0) | (have _ := M1; go_at_call 89; refine (US.both CS (HS.out)).mono ?_; rintro e W' (⟨rfl, hP, t1⟩ | ⟨x1, k2, rfl, hS', hgr, t1⟩); (· (have HF := Lib.hid (show hitP l last k = none by simp only [hitP, HT0.out,  t1, Option.bind_some, Option.bind_none]); go_wp2; ((refine leaves_cons (f := 88) (args := #[.pointer (some ⟨w.heap.size, 0, none⟩), .pointer (some ⟨w.heap.size + 1, 0, none⟩)]) (by simp) (by simp [go_sem]) ?_; refine (catch_wrong w.heap.size (w.heap.size + 1) _ _ (by omega) hP.hbox hP.obox HVS.out).mono ?_; rintro e u' w'' ⟨rfl, rfl, hx1, hx2, hx3⟩); have hy1 := cell_of_row _ _ 0 _ _ _ hx1; have hy2 := cell_of_row _ _ 0 _ _ _ hx2; have hy3 := hx3 w.heap.size w (by omega) (by omega) hP.below; clear hx1 hx2 hx3; simp [Leaves, settle, results, Try.results72, go_sem, hy1, hy2]; exact HR1.out _ _ (unpL_none2 H4.out (hs_fail HI.out hlt HF.out)) rfl hy3))); have M2 : True := trivial; clear HS M1; have HS := Lib.hid hS'; have HT1 := Lib.hid t1; clear hS' t1) | (have _ := M2; go_at_call 89; refine (US.both CS (HS.out)).mono ?_; rintro e W' (⟨rfl, hP, t2⟩ | ⟨x2, k3, rfl, hS', hgr, t2⟩); (· (have HF := Lib.hid (show hitP l last k = none by simp only [hitP, HT0.out, HT1.out,  t2, Option.bind_some, Option.bind_none]); go_wp2; ((refine leaves_cons (f := 88) (args := #[.pointer (some ⟨w.heap.size, 0, none⟩), .pointer (some ⟨w.heap.size + 1, 0, none⟩)]) (by simp) (by simp [go_sem]) ?_; refine (catch_wrong w.heap.size (w.heap.size + 1) _ _ (by omega) hP.hbox hP.obox HVS.out).mono ?_; rintro e u' w'' ⟨rfl, rfl, hx1, hx2, hx3⟩); have hy1 := cell_of_row _ _ 0 _ _ _ hx1; have hy2 := cell_of_row _ _ 0 _ _ _ hx2; have hy3 := hx3 w.heap.size w (by omega) (by omega) hP.below; clear hx1 hx2 hx3; simp [Leaves, settle, results, Try.results72, go_sem, hy1, hy2]; exact HR1.out _ _ (unpL_none2 H4.out (hs_fail HI.out hlt HF.out)) rfl hy3))); have M3 : True := trivial; clear HS M2; have HS := Lib.hid hS'; have HT2 := Lib.hid t2; clear hS' t2) | (have _ := M3; go_at_call 89; refine (US.both CS (HS.out)).mono ?_; rintro e W' (⟨rfl, hP, t3⟩ | ⟨x3, k4, rfl, hS', hgr, t3⟩); (· (have HF := Lib.hid (show hitP l last k = none by simp only [hitP, HT0.out, HT1.out, HT2.out,  t3, Option.bind_some, Option.bind_none]); go_wp2; ((refine leaves_cons (f := 88) (args := #[.pointer (some ⟨w.heap.size, 0, none⟩), .pointer (some ⟨w.heap.size + 1, 0, none⟩)]) (by simp) (by simp [go_sem]) ?_; refine (catch_wrong w.heap.size (w.heap.size + 1) _ _ (by omega) hP.hbox hP.obox HVS.out).mono ?_; rintro e u' w'' ⟨rfl, rfl, hx1, hx2, hx3⟩); have hy1 := cell_of_row _ _ 0 _ _ _ hx1; have hy2 := cell_of_row _ _ 0 _ _ _ hx2; have hy3 := hx3 w.heap.size w (by omega) (by omega) hP.below; clear hx1 hx2 hx3; simp [Leaves, settle, results, Try.results72, go_sem, hy1, hy2]; exact HR1.out _ _ (unpL_none2 H4.out (hs_fail HI.out hlt HF.out)) rfl hy3))); have M4 : True := trivial; clear HS M3; have HS := Lib.hid hS'; have HT3 := Lib.hid t3; clear hS' t3) | (have _ := M4; go_at_call 89; refine (US.both CS (HS.out)).mono ?_; rintro e W' (⟨rfl, hP, t4⟩ | ⟨x4, k5, rfl, hS', hgr, t4⟩); (· (have HF := Lib.hid (show hitP l last k = none by simp only [hitP, HT0.out, HT1.out, HT2.out, HT3.out,  t4, Option.bind_some, Option.bind_none]); go_wp2; ((refine leaves_cons (f := 88) (args := #[.pointer (some ⟨w.heap.size, 0, none⟩), .pointer (some ⟨w.heap.size + 1, 0, none⟩)]) (by simp) (by simp [go_sem]) ?_; refine (catch_wrong w.heap.size (w.heap.size + 1) _ _ (by omega) hP.hbox hP.obox HVS.out).mono ?_; rintro e u' w'' ⟨rfl, rfl, hx1, hx2, hx3⟩); have hy1 := cell_of_row _ _ 0 _ _ _ hx1; have hy2 := cell_of_row _ _ 0 _ _ _ hx2; have hy3 := hx3 w.heap.size w (by omega) (by omega) hP.below; clear hx1 hx2 hx3; simp [Leaves, settle, results, Try.results72, go_sem, hy1, hy2]; exact HR1.out _ _ (unpL_none2 H4.out (hs_fail HI.out hlt HF.out)) rfl hy3))); have M5 : True := trivial; clear HS M4; have HS := Lib.hid hS'; have HT4 := Lib.hid t4; clear hS' t4))
        clear hgr
        generalize W' = W5 at *
        have hw5 := HS.out.below.size
        have HOL := Lib.hid (fun g hg => (HS.out.own.lt g hg).2)
        have l1 : w.heap.size < W5.heap.size := (Array.getElem?_eq_some_iff.1 HS.out.hbox).1
        have l2 : w.heap.size + 1 < W5.heap.size := (Array.getElem?_eq_some_iff.1 HS.out.obox).1
        have l3 : pb < W5.heap.size := (Array.getElem?_eq_some_iff.1 HS.out.pbox).1
        clear c1 c2 c3 c4 c5
        go_upto_region 14 with (have _ := M5; go_at_call 89; refine (US.both CS (HS.out.alloc _)).mono ?_; rintro e W' (⟨rfl, hP, t5⟩ | ⟨x5, k6, rfl, hS', hgr, t5⟩); (· (have HF := Lib.hid (show hitP l last k = none by simp only [hitP, HT0.out, HT1.out, HT2.out, HT3.out, HT4.out,  t5, Option.bind_some, Option.bind_none]); go_wp2; ((refine leaves_cons (f := 88) (args := #[.pointer (some ⟨w.heap.size, 0, none⟩), .pointer (some ⟨w.heap.size + 1, 0, none⟩)]) (by simp) (by simp [go_sem]) ?_; refine (catch_wrong w.heap.size (w.heap.size + 1) _ _ (by omega) hP.hbox hP.obox HVS.out).mono ?_; rintro e u' w'' ⟨rfl, rfl, hx1, hx2, hx3⟩); have hy1 := cell_of_row _ _ 0 _ _ _ hx1; have hy2 := cell_of_row _ _ 0 _ _ _ hx2; have hy3 := hx3 w.heap.size w (by omega) (by omega) hP.below; clear hx1 hx2 hx3; simp [Leaves, settle, results, Try.results72, go_sem, hy1, hy2]; exact HR1.out _ _ (unpL_none2 H4.out (hs_fail HI.out hlt HF.out)) rfl hy3))); have M6 : True := trivial; clear HS M5; have HS := Lib.hid hS'; have HT5 := Lib.hid t5; clear hS' t5)
        have hbx : W'.heap[W5.heap.size]? = some (.cells #[.int .i64 (x0 : Int), .int .i64 (x1 : Int), .int .i64 (x2 : Int), .int .i64 (x3 : Int), .int .i64 (x4 : Int), .int .i64 0] 26) := (hgr.block _ (by simp) (by simp; omega)).trans (heapQ_new rfl)
        clear hgr
        generalize W' = W6 at *
        have HOX := Lib.hid (show (Value.slice va L.length vc).ownBlock ≠ some W5.heap.size from fun e => Nat.lt_irrefl _ (HOL.out _ e))
        generalize W5.heap.size = hx at *
        have hF : hitP l last k = some (⟨(x0 : Int), (x1 : Int), (x2 : Int), (x3 : Int), (x4 : Int), last + unzig (x5 : Int)⟩, k6) := by simp only [hitP, HT0.out, HT1.out, HT2.out, HT3.out, HT4.out, HT5.out, Option.bind_some]
        have HI2 := Lib.hid (hs_step HI.out hlt hF)
        have hk6 : k + 6 ≤ k6 := by
          have := (tkP_fits CS.bytes HT0.out).2.1; have := (tkP_fits CS.bytes HT1.out).2.1; have := (tkP_fits CS.bytes HT2.out).2.1; have := (tkP_fits CS.bytes HT3.out).2.1; have := (tkP_fits CS.bytes HT4.out).2.1; have := (tkP_fits CS.bytes HT5.out).2.1
          omega
        have hx5 := (tkP_fits CS.bytes HT5.out).1
        have HUB := Lib.hid (unzig_bound hx5)
        clear hF HT0 HT1 HT2 HT3 HT4 HT5 HOL M6
        have d9 : W6.cell? ⟨hx, 5, none⟩ = some (.int .i64 0) := cell_of_row _ _ _ _ _ _ hbx
        have d8 : W6.frozen? ⟨hx, 5, none⟩ = false := frozen_of_row _ _ _ _ _ hbx
        have HBX := Lib.hid hbx
        clear hbx
        obtain ⟨lu, hlu⟩ : ∃ y, y = last + unzig (x5 : Int) := ⟨_, rfl⟩
        rw [← hlu] at HI2
        have HLU := Lib.hid hlu
        clear hlu
        go_upto_if 60 with (fail)
        go_cut [8] from 60 to 69 (fun s8 wx => s8 = .int .i64 lu ∧ wx = W6)
        case first =>
          by_cases hd : x5 % 2 = 0
          · have hd' : ((x5 : Int) % 2 == 0) = true := by rw [beq_iff_eq]; omega
            have HZ := Lib.hid (show last + (x5 : Int) / 2 = lu by rw [HLU.out, unzig, if_pos (by omega)])
            go_wp2
            go_meet
            exact ⟨by rw [HZ.out], by first | rfl | trivial⟩
          · have hd' : ((x5 : Int) % 2 == 0) = false := by rw [beq_eq_false_iff_ne]; omega
            have HZ := Lib.hid (show last - ((x5 : Int) + 1) / 2 = lu by rw [HLU.out, unzig, if_neg (by omega)]; omega)
            go_wp2
            go_meet
            exact ⟨by rw [HZ.out], by first | rfl | trivial⟩
        obtain ⟨rfl, rfl⟩ := hcut
        go_upto_region 18 with (fail)
        have HS7 := Lib.hid (US.box (hx := hx) (j := 5) CS HS.out (.int .i64 lu) (by omega) (by omega) (by omega) (by omega) HOX.out)
        have hbx := heap_setCell_same _ hx 5 _ _ (.int .i64 lu) HBX.out
        clear HS HBX HOX d8 d9
        generalize World.setCell _ ⟨hx, 5, none⟩ (.int .i64 lu) = W7 at *
        have d0 : W7.cell? ⟨hx, 0, none⟩ = some (.int .i64 (x0 : Int)) := cell_of_row _ _ _ _ _ _ hbx
        have d1 : W7.cell? ⟨hx, 1, none⟩ = some (.int .i64 (x1 : Int)) := cell_of_row _ _ _ _ _ _ hbx
        have d2 : W7.cell? ⟨hx, 2, none⟩ = some (.int .i64 (x2 : Int)) := cell_of_row _ _ _ _ _ _ hbx
        have d3 : W7.cell? ⟨hx, 3, none⟩ = some (.int .i64 (x3 : Int)) := cell_of_row _ _ _ _ _ _ hbx
        have d4 : W7.cell? ⟨hx, 4, none⟩ = some (.int .i64 (x4 : Int)) := cell_of_row _ _ _ _ _ _ hbx
        have d5 : W7.cell? ⟨hx, 5, none⟩ = some (.int .i64 lu) := cell_of_row _ _ _ _ _ _ hbx
        have e1 := HS7.out.cells.1
        have hw7 := HS7.out.below.size
        clear hbx
        obtain ⟨i0, hi, hz0, hz1, hz2⟩ := info_parts info_hit
        have hb63 : L.length + 1 ≤ maxLen := by unfold maxLen; omega
        have hb47 : (L.length + 1) * 48 ≤ 140737488355328 := by omega
        have hb22 : ∀ o, w.heap.size ≤ (W7.alloc o).heap.size := fun o => by simp; omega
        have HB22 := Lib.hid hb22
        clear hb22
        go_wp2_with (at_builtin; refine wpList_append_own _ rfl _ _ 65 rfl w.heap.size 26 i0 _ 6 48 Try.underlying65 hi hz0 hz1 hz2 rfl (by decide) _ L.length (hC L) rfl (HS7.out.own.alloc _) ⟨W7.heap.size, 0, none⟩ 1 1 (HV.cells ⟨(x0 : Int), (x1 : Int), (x2 : Int), (x3 : Int), (x4 : Int), lu⟩) rfl rfl cells_new hv_one hb63 hb47 (HB22.out _) ?_; intro v' w6 hown6 hgrow6 hnil6; obtain ⟨a6, c6, rfl⟩ := own_len hown6; obtain ⟨hq1, hq2⟩ := US.app CS (HS7.out.alloc _) hown6 hgrow6; have q1 := cell_of_row _ _ 0 _ _ _ hq1; have q2 := frozen_of_row _ _ 0 _ _ hq1; have HQ := Lib.hid hq2; clear hown6 hgrow6 hnil6 hq1 hq2)
        have el : ∀ q : HV, (L ++ [q]).length = L.length + 1 := fun q => by simp
        have EL := Lib.hid el
        clear el
        have hkm := HQ.out.le
        go_roundw
        case rel =>
          refine ⟨L ++ [⟨(x0 : Int), (x1 : Int), (x2 : Int), (x3 : Int), (x4 : Int), lu⟩], a6, c6, lu, k6, rfl, HI2, ?_, Lib.hid ?_⟩
          · have := HUB.out; have := HLU.out; rw [EL.out]; omega
          · rw [EL.out]; exact HQ.out
        case measure => rw [US.rest HQ.out, HRL.out]; omega
      · have hlt' : ¬ (L.length : Int) < (many : Int) := by omega
        have HE := Lib.hid (unpL_some H4.out (hs_end HI.out (by omega)))
        have HVV := Lib.hid (show ∃ a n c, (Value.slice va L.length vc) = .slice a n c from ⟨_, _, _, rfl⟩)
        have n1 : w.heap.size ≠ pb := CS.hp
        have n2 : pb ≠ w.heap.size := Ne.symm n1
        have n3 : w.heap.size + 1 ≠ pb := CS.op
        have n4 : pb ≠ w.heap.size + 1 := Ne.symm n3
        by_cases hk : k = l.length
        · have hk' : (((n - 2 - k : Nat) : Int) == 0) = true := by rw [beq_iff_eq]; omega
          have HE2 := Lib.hid (HE.out.trans (if_pos hk))
          have HFI := Lib.hid (US.fin CS HS.out true)
          clear hk HE HI
          go_wp2_with fail
          go_region
          obtain ⟨hq1, hq2, hq3, hq4⟩ := HFI.out
          clear HS HFI c1 c2 c3 c4 c5
          generalize World.drew _ = Wf at *
          go_wp2
          (refine leaves_cons (f := 88) (args := #[.pointer (some ⟨w.heap.size, 0, none⟩), .pointer (some ⟨w.heap.size + 1, 0, none⟩)]) (by simp) (by simp [go_sem]) ?_; refine (catch_idle _ _ _).mono ?_; rintro e u' w'' ⟨rfl, rfl, rfl⟩)
          simp [Leaves, settle, results, Try.results72, go_sem, hq1, hq2]
          exact HR2.out _ _ _ L HVV.out HE2.out rfl hq3 hq4
        · have hk' : (((n - 2 - k : Nat) : Int) == 0) = false := by rw [beq_eq_false_iff_ne]; omega
          have HE2 := Lib.hid (HE.out.trans (if_neg hk))
          have HFI := Lib.hid (US.fin CS HS.out false)
          clear hk HE HI
          go_wp2_with fail
          go_region
          obtain ⟨hq1, hq2, hq3, hq4⟩ := HFI.out
          clear HS HFI c1 c2 c3 c4 c5
          generalize World.drew _ = Wf at *
          go_wp2
          (refine leaves_cons (f := 88) (args := #[.pointer (some ⟨w.heap.size, 0, none⟩), .pointer (some ⟨w.heap.size + 1, 0, none⟩)]) (by simp) (by simp [go_sem]) ?_; refine (catch_idle _ _ _).mono ?_; rintro e u' w'' ⟨rfl, rfl, rfl⟩)
          simp [Leaves, settle, results, Try.results72, go_sem, hq1, hq2]
          exact HR3.out _ _ _ HVV.out HE2.out rfl hq3
end Go.Proofs.Ytgcepjminlapiaa
