/- Texts put together: FpRefA, FpRefB, FpRefC. -/
import Derived.Test.YtegimepmccilfaaGreatDoorFpDat
import Derived.Test.YtegimepmccilfaaGreatDoorPlaneT
import Derived.Laws.Concat
import Derived.Lib.ItoaLen
import Derived.Test.YtegimepmccilfaaGreatDoorFpTx
import Derived.Test.YtegimepmccilfaaGreatDoorRegHead
namespace Go.Proofs.YtegimepmccilfaaGreatDoor
open Go.RowKit
set_option linter.unusedVariables false
set_option linter.unusedSimpArgs false
/-- what is still to be written ahead -/
def preD (u : Nat) : Tx := if u = 0 then [] else Lib.decDigits u
theorem dec_step (u : Nat) : Lib.decDigits u = preD (u / 10) ++ [UInt8.ofNat (48 + u % 10)] := by
  unfold preD
  rw [Lib.decDigits.eq_def u]
  by_cases h : u < 10
  · rw [dif_pos h, if_pos (by omega), Nat.mod_eq_of_lt h]
    rfl
  · rw [dif_neg h, if_neg (by omega)]
theorem digit_at {d : Nat} (h : d < 10) : (⟨#[48, 49, 50, 51, 52, 53, 54, 55, 56, 57]⟩ : ByteArray).extract d (d + 1) = ⟨#[UInt8.ofNat (48 + d)]⟩ := by
  have : d = 0 ∨ d = 1 ∨ d = 2 ∨ d = 3 ∨ d = 4 ∨ d = 5 ∨ d = 6 ∨ d = 7 ∨ d = 8 ∨ d = 9 := by omega
  rcases this with e | e | e | e | e | e | e | e | e | e <;> subst e <;> decide +kernel
set_option maxRecDepth 100000 in
set_option maxHeartbeats 1000000 in
theorem r1decN_any (v : Nat) (hv : v ≤ 9999999999) (w : World) : Calls Tryz.prog 26 #[.int .i64 (v : Int)] w fun e w' => e = .returned (.string ⟨(Lib.decDigits v).toArray⟩) ∧ w = w' := by
  have hn0 : ¬ (v : Int) < 0 := by omega
  have HST := Lib.hid (dec_step v)
  have hmod : Int.tmod (v : Int) 10 = ((v % 10 : Nat) : Int) := by rw [Int.tmod_eq_emod_of_nonneg (by omega)]; rfl
  have hdiv : Int.tdiv (v : Int) 10 = ((v / 10 : Nat) : Int) := by rw [Int.tdiv_eq_ediv_of_nonneg (by omega)]; rfl
  have hd9 : v % 10 < 10 := by omega
  have hex := digit_at hd9
  have hq : v / 10 ≤ 999999999 := by omega
  have HL := Lib.hid (dec_len hv)
  generalize Lib.decDigits v = RES at *
  go_enter Tryz.func26, Tryz.ntmps26
  generalize v % 10 = d at *
  generalize v / 10 = q at *
  generalize UInt8.ofNat (48 + d) = c0 at *
  go_upto_region 6 with (fail)
  clear hex hmod hdiv hd9
  go_loopw [0, 4] (fun s0 s4 wr => ∃ (u : Nat) (T : Tx), (u ≤ 999999999 ∧ T.length ≤ 10) ∧ s0 = .int .i64 (u : Int) ∧ s4 = .string ⟨T.toArray⟩ ∧ Hid (RES = preD u ++ T) ∧ w = wr) (fun s0 _ _ => (intOf s0).toNat)
  case atStart => exact ⟨q, [c0], ⟨hq, by simp⟩, rfl, rfl, HST, rfl⟩
  case round =>
    clear HST
    obtain ⟨u, T, ⟨hu, hT⟩, rfl, rfl, HX, rfl⟩ := hrel
    by_cases h0 : u = 0
    · subst h0
      have HR := Lib.hid (show RES = T from HX.out)
      go_wp2
      go_ret
      exact ⟨by rw [HR.out]; rfl, rfl⟩
    · have h0' : (0 : Int) < (u : Int) := by omega
      have HST := Lib.hid (dec_step u)
      have HX2 := Lib.hid (show RES = Lib.decDigits u ++ T from by rw [HX.out]; unfold preD; rw [if_neg h0])
      have hmod : Int.tmod (u : Int) 10 = ((u % 10 : Nat) : Int) := by rw [Int.tmod_eq_emod_of_nonneg (by omega)]; rfl
      have hdiv : Int.tdiv (u : Int) 10 = ((u / 10 : Nat) : Int) := by rw [Int.tdiv_eq_ediv_of_nonneg (by omega)]; rfl
      have hd9 : u % 10 < 10 := by omega
      have hex := digit_at hd9
      have hq2 : u / 10 + 1 ≤ u := by omega
      have HN := Lib.hid (show RES = preD (u / 10) ++ ([UInt8.ofNat (48 + u % 10)] ++ T) from by rw [HX2.out, HST.out, List.append_assoc])
      have hT1 : ([UInt8.ofNat (48 + u % 10)] ++ T).length ≤ 10 := by
        have h1 := congrArg List.length HN.out
        rw [List.length_append] at h1
        have := HL.out
        omega
      clear HX HX2 HST
      generalize u % 10 = d2 at *
      generalize u / 10 = q2 at *
      generalize UInt8.ofNat (48 + d2) = c2 at *
      have hadd : ∀ w : World, (Op.stringOp .add ⟨#[c2]⟩ ⟨T.toArray⟩).run Tryz.prog w = .ok (.string ⟨([c2] ++ T).toArray⟩) w := fun w => run_string_add_lists w [c2] T (by simp) (by omega)
      go_wp2
      go_roundw
      case rel => exact ⟨q2, [c2] ++ T, ⟨by omega, hT1⟩, rfl, rfl, HN, by trivial⟩
      case measure => simp [intOf]; omega
set_option maxRecDepth 100000 in
set_option maxHeartbeats 1000000 in
theorem r1Decimal_any (n : Int) (h : -9999999999 ≤ n ∧ n ≤ 9999999999) (w : World) : Calls Tryz.prog 26 #[.int .i64 n] w fun e w' => e = .returned (.string ⟨(Lib.itoa n).toArray⟩) ∧ w = w' := by
  by_cases hn : n < 0
  · have HE := Lib.hid (show Lib.itoa n = 45 :: Lib.decDigits n.natAbs from by unfold Lib.itoa; rw [if_pos hn])
    have HC := Lib.hid (fun (W : World) => r1decN_any n.natAbs (by omega) W)
    have hng : -n = ((n.natAbs : Nat) : Int) := by omega
    have hl := dec_len (u := n.natAbs) (by omega)
    generalize Lib.itoa n = RES at *
    generalize Lib.decDigits n.natAbs = D at *
    generalize n.natAbs = k at *
    have hadd : ∀ w : World, (Op.stringOp .add ⟨#[45]⟩ ⟨D.toArray⟩).run Tryz.prog w = .ok (.string ⟨([45] ++ D).toArray⟩) w := fun w => run_string_add_lists w [45] D (by simp) (by omega)
    go_enter Tryz.func26, Tryz.ntmps26
    go_wp2_with (go_at_call 26; refine (HC.out _).mono ?_; rintro e w2 ⟨rfl, rfl⟩)
    go_ret
    exact ⟨by rw [HE.out]; rfl, rfl⟩
  · obtain ⟨k, rfl⟩ : ∃ k : Nat, n = (k : Int) := ⟨n.toNat, by omega⟩
    rw [Lib.itoa_nonneg]
    exact r1decN_any k (by omega) w
/-- a new row of words -/
def WRow (W W' : World) (e : Ending) (ws : List Tx) : Prop := ∃ b, e = .returned (.slice (some ⟨b, 0, none⟩) ws.length ws.length) ∧ W.heap.size ≤ b ∧ b < W'.heap.size ∧ (∀ i, i < ws.length → W'.cell? ⟨b, i, none⟩ = some (.string ⟨(ws.getD i []).toArray⟩)) ∧ Below W.heap.size W W'
theorem r1kinds_any (w : World) : Calls Tryz.prog 45 #[] w fun e w' => WRow w w' e [stripsT, tubesT, filmT] := by
  go_enter Tryz.func45, Tryz.ntmps45
  go_wp2
  go_ret
  have h := heap_alloc_new w (.cells #[.string ⟨stripsT.toArray⟩, .string ⟨tubesT.toArray⟩, .string ⟨filmT.toArray⟩] 9)
  refine ⟨w.heap.size, rfl, Nat.le_refl _, (Array.getElem?_eq_some_iff.1 h).1, fun i hi => ?_, (Below.refl _ _).alloc (Nat.le_refl _) _⟩
  have hi2 : i < 3 := hi
  match i, hi2 with
  | 0, _ => exact cell_of_row _ _ 0 _ _ _ h
  | 1, _ => exact cell_of_row _ _ 1 _ _ _ h
  | 2, _ => exact cell_of_row _ _ 2 _ _ _ h
theorem r1views_any (w : World) : Calls Tryz.prog 46 #[] w fun e w' => WRow w w' e [viewxT, viewyT] := by
  go_enter Tryz.func46, Tryz.ntmps46
  go_wp2
  go_ret
  have h := heap_alloc_new w (.cells #[.string ⟨viewxT.toArray⟩, .string ⟨viewyT.toArray⟩] 9)
  refine ⟨w.heap.size, rfl, Nat.le_refl _, (Array.getElem?_eq_some_iff.1 h).1, fun i hi => ?_, (Below.refl _ _).alloc (Nat.le_refl _) _⟩
  have hi2 : i < 2 := hi
  match i, hi2 with
  | 0, _ => exact cell_of_row _ _ 0 _ _ _ h
  | 1, _ => exact cell_of_row _ _ 1 _ _ _ h
end Go.Proofs.YtegimepmccilfaaGreatDoor
namespace Go.Proofs.YtegimepmccilfaaGreatDoor
open Go.RowKit
set_option linter.unusedVariables false
set_option linter.unusedSimpArgs false
theorem fp_below (W : World) (o : Obj) : Below W.heap.size W (W.alloc o) := (Below.refl _ _).alloc (Nat.le_refl _) _
/-- a row of numbers in a block of its own -/
def NRow (W W' : World) (e : Ending) (l : List Int) : Prop := ∃ b, e = .returned (.slice (some ⟨b, 0, none⟩) l.length l.length) ∧ W.heap.size ≤ b ∧ b < W'.heap.size ∧ (∀ i, i < l.length → W'.cell? ⟨b, i, none⟩ = some (.int .i64 (l.getD i 0))) ∧ Below W.heap.size W W'
set_option maxRecDepth 100000 in
set_option maxHeartbeats 1000000 in
theorem r1numbers_any (p : PR) (w : World) : Calls Tryz.prog 47 #[p.plane] w fun e w' => NRow w w' e (nsOf p) := by
  go_enter Tryz.func47, Tryz.ntmps47
  go_upto_region 1 with (fail)
  have HB := Lib.hid (fp_below w (.cells #[.int .i64 p.kind, .int .i64 p.view, .int .i64 p.z, .int .i64 p.first, .int .i64 p.pitch, .int .i64 p.strips, .int .i64 p.spill, .int .i64 p.olo, .int .i64 p.ohi, .int .i64 p.clo, .int .i64 p.chi, .int .i64 p.jitter, .int .i64 p.least, .slice p.da p.dn p.dc, .slice p.ea p.en p.ec] 42))
  have hn := heap_alloc_new w (.cells #[.int .i64 p.kind, .int .i64 p.view, .int .i64 p.z, .int .i64 p.first, .int .i64 p.pitch, .int .i64 p.strips, .int .i64 p.spill, .int .i64 p.olo, .int .i64 p.ohi, .int .i64 p.clo, .int .i64 p.chi, .int .i64 p.jitter, .int .i64 p.least, .slice p.da p.dn p.dc, .slice p.ea p.en p.ec] 42)
  generalize World.alloc w _ = V at *
  have k0 := cell_of_row _ _ 0 _ _ _ hn; have k1 := cell_of_row _ _ 1 _ _ _ hn; have k2 := cell_of_row _ _ 2 _ _ _ hn; have k3 := cell_of_row _ _ 3 _ _ _ hn; have k4 := cell_of_row _ _ 4 _ _ _ hn; have k5 := cell_of_row _ _ 5 _ _ _ hn; have k6 := cell_of_row _ _ 6 _ _ _ hn; have k7 := cell_of_row _ _ 7 _ _ _ hn; have k8 := cell_of_row _ _ 8 _ _ _ hn; have k9 := cell_of_row _ _ 9 _ _ _ hn; have k10 := cell_of_row _ _ 10 _ _ _ hn; have k11 := cell_of_row _ _ 11 _ _ _ hn; have k12 := cell_of_row _ _ 12 _ _ _ hn; have k13 := cell_of_row _ _ 13 _ _ _ hn; have k14 := cell_of_row _ _ 14 _ _ _ hn
  clear hn
  go_wp2
  go_ret
  have h := heap_alloc_new V (.cells #[.int .i64 p.z, .int .i64 p.first, .int .i64 p.pitch, .int .i64 p.strips, .int .i64 p.spill, .int .i64 p.olo, .int .i64 p.ohi, .int .i64 p.clo, .int .i64 p.chi, .int .i64 p.jitter, .int .i64 p.least] 3)
  refine ⟨V.heap.size, rfl, HB.out.size, (Array.getElem?_eq_some_iff.1 h).1, fun i hi => ?_, HB.out.trans ((fp_below V _).mono HB.out.size)⟩
  have hi2 : i < 11 := hi
  match i, hi2 with
  | 0, _ => exact cell_of_row _ _ 0 _ _ _ h
  | 1, _ => exact cell_of_row _ _ 1 _ _ _ h
  | 2, _ => exact cell_of_row _ _ 2 _ _ _ h
  | 3, _ => exact cell_of_row _ _ 3 _ _ _ h
  | 4, _ => exact cell_of_row _ _ 4 _ _ _ h
  | 5, _ => exact cell_of_row _ _ 5 _ _ _ h
  | 6, _ => exact cell_of_row _ _ 6 _ _ _ h
  | 7, _ => exact cell_of_row _ _ 7 _ _ _ h
  | 8, _ => exact cell_of_row _ _ 8 _ _ _ h
  | 9, _ => exact cell_of_row _ _ 9 _ _ _ h
  | 10, _ => exact cell_of_row _ _ 10 _ _ _ h
theorem kind_at {k : Int} (h : 1 ≤ k ∧ k ≤ 3) : ∃ j : Nat, k - 1 = (j : Int) ∧ j < 3 ∧ ([stripsT, tubesT, filmT] : List Tx).getD j [] = kindT k := by
  have : k = 1 ∨ k = 2 ∨ k = 3 := by omega
  rcases this with e | e | e <;> subst e
  · exact ⟨0, by decide, by decide, rfl⟩
  · exact ⟨1, by decide, by decide, rfl⟩
  · exact ⟨2, by decide, by decide, rfl⟩
theorem view_at {k : Int} (h : 1 ≤ k ∧ k ≤ 2) : ∃ j : Nat, k - 1 = (j : Int) ∧ j < 2 ∧ ([viewxT, viewyT] : List Tx).getD j [] = viewT k := by
  have : k = 1 ∨ k = 2 := by omega
  rcases this with e | e <;> subst e
  · exact ⟨0, by decide, by decide, rfl⟩
  · exact ⟨1, by decide, by decide, rfl⟩
def AddTo (A B C : Tx) : Prop := ∀ w : World, (Op.stringOp .add ⟨A.toArray⟩ ⟨B.toArray⟩).run Tryz.prog w = .ok (.string ⟨C.toArray⟩) w
theorem add_to (A B : Tx) (h : (A ++ B).length ≤ 100000) : AddTo A B (A ++ B) := fun w => by
  rw [List.length_append] at h
  exact run_string_add_lists w A B (by omega) (by omega)
theorem six_adds (T X1 X2 X3 : Tx) (h : ((T ++ [32]) ++ (X1 ++ ([58] ++ X2 ++ ([58] ++ X3)))).length ≤ 2000) : ∃ T1 T2 T3 T4 T5 T6 : Tx,
    (∀ w : World, (Op.stringOp .add ⟨T.toArray⟩ ⟨#[32]⟩).run Tryz.prog w = .ok (.string ⟨T1.toArray⟩) w) ∧
    (∀ w : World, (Op.stringOp .add ⟨T1.toArray⟩ ⟨X1.toArray⟩).run Tryz.prog w = .ok (.string ⟨T2.toArray⟩) w) ∧
    (∀ w : World, (Op.stringOp .add ⟨T2.toArray⟩ ⟨#[58]⟩).run Tryz.prog w = .ok (.string ⟨T3.toArray⟩) w) ∧
    (∀ w : World, (Op.stringOp .add ⟨T3.toArray⟩ ⟨X2.toArray⟩).run Tryz.prog w = .ok (.string ⟨T4.toArray⟩) w) ∧
    (∀ w : World, (Op.stringOp .add ⟨T4.toArray⟩ ⟨#[58]⟩).run Tryz.prog w = .ok (.string ⟨T5.toArray⟩) w) ∧
    (∀ w : World, (Op.stringOp .add ⟨T5.toArray⟩ ⟨X3.toArray⟩).run Tryz.prog w = .ok (.string ⟨T6.toArray⟩) w) ∧
    Hid (T6 = (T ++ [32]) ++ (X1 ++ ([58] ++ X2 ++ ([58] ++ X3)))) := by
  simp only [List.length_append, List.length_cons, List.length_nil] at h
  refine ⟨T ++ [32], T ++ [32] ++ X1, T ++ [32] ++ X1 ++ [58], T ++ [32] ++ X1 ++ [58] ++ X2, T ++ [32] ++ X1 ++ [58] ++ X2 ++ [58], T ++ [32] ++ X1 ++ [58] ++ X2 ++ [58] ++ X3, add_to T [32] ?_, add_to _ X1 ?_, add_to _ [58] ?_, add_to _ X2 ?_, add_to _ [58] ?_, add_to _ X3 ?_, Lib.hid (by simp)⟩ <;> (simp only [List.length_append, List.length_cons, List.length_nil]; omega)
theorem two_adds (T X : Tx) (h : ((T ++ [32]) ++ X).length ≤ 2000) : ∃ T1 T2 : Tx,
    (∀ w : World, (Op.stringOp .add ⟨T.toArray⟩ ⟨#[32]⟩).run Tryz.prog w = .ok (.string ⟨T1.toArray⟩) w) ∧
    (∀ w : World, (Op.stringOp .add ⟨T1.toArray⟩ ⟨X.toArray⟩).run Tryz.prog w = .ok (.string ⟨T2.toArray⟩) w) ∧
    Hid (T2 = (T ++ [32]) ++ X) := by
  simp only [List.length_append, List.length_cons, List.length_nil] at h
  refine ⟨T ++ [32], T ++ [32] ++ X, add_to T [32] ?_, add_to _ X ?_, Lib.hid rfl⟩ <;> (simp only [List.length_append, List.length_cons, List.length_nil]; omega)
set_option maxRecDepth 100000 in
set_option maxHeartbeats 4000000 in
theorem r1line_any (p : PR) (h : PPB p) (w : World) (hm : p.mem w.heap.size w) : Calls Tryz.prog 27 #[p.plane] w fun e w' => e = .returned (.string ⟨(ppT (toPP p)).toArray⟩) ∧ Below w.heap.size w w' := by
  obtain ⟨kj, hk1, hk2, hk3⟩ := kind_at h.kind
  obtain ⟨vj, hv1, hv2, hv3⟩ := view_at h.view
  have HT1 := Lib.hid (tx_one p)
  have HL := Lib.hid (fun m => tx_len h m)
  have hkl : (kindT p.kind).length ≤ 6 := by unfold kindT; split; decide; split <;> decide
  have hvl : (viewT p.view).length ≤ 6 := by unfold viewT; split <;> decide
  have HP := Lib.hid h
  have HM := Lib.hid hm
  have HKW := Lib.hid (fun (W : World) => r1kinds_any W)
  have HVW := Lib.hid (fun (W : World) => r1views_any W)
  have HNW := Lib.hid (fun (W : World) => r1numbers_any p W)
  have HRES := Lib.hid (show ∀ W' : World, Below w.heap.size w W' → (fun (e : Ending) (w' : World) => e = .returned (.string ⟨(ppT (toPP p)).toArray⟩) ∧ Below w.heap.size w w') (.returned (.string ⟨(txN p (12 + drl p + del p)).toArray⟩)) W' from fun W' hb => ⟨by rw [tx_end], hb⟩)
  generalize (fun (e : Ending) (w' : World) => e = .returned (.string ⟨(ppT (toPP p)).toArray⟩) ∧ Below w.heap.size w w') = RES at *
  clear h hm
  go_enter Tryz.func27, Tryz.ntmps27
  go_upto_region 1 with (fail)
  have HB := Lib.hid (fp_below w (.cells #[.int .i64 p.kind, .int .i64 p.view, .int .i64 p.z, .int .i64 p.first, .int .i64 p.pitch, .int .i64 p.strips, .int .i64 p.spill, .int .i64 p.olo, .int .i64 p.ohi, .int .i64 p.clo, .int .i64 p.chi, .int .i64 p.jitter, .int .i64 p.least, .slice p.da p.dn p.dc, .slice p.ea p.en p.ec] 42))
  have HV := Lib.hid (heap_alloc_new w (.cells #[.int .i64 p.kind, .int .i64 p.view, .int .i64 p.z, .int .i64 p.first, .int .i64 p.pitch, .int .i64 p.strips, .int .i64 p.spill, .int .i64 p.olo, .int .i64 p.ohi, .int .i64 p.clo, .int .i64 p.chi, .int .i64 p.jitter, .int .i64 p.least, .slice p.da p.dn p.dc, .slice p.ea p.en p.ec] 42))
  have hbl := (Array.getElem?_eq_some_iff.1 HV.out).1
  generalize World.alloc w _ = V at *
  go_cut [3] from 9 to 23 (fun s3 wx => s3 = .string ⟨(txN p 1).toArray⟩ ∧ Hid (Below V.heap.size V wx))
  case first =>
    have k0 := cell_of_row _ _ 0 _ _ _ HV.out
    have k1 := cell_of_row _ _ 1 _ _ _ HV.out
    refine wp_region_any (by kernel_rfl) ?_
    change wpAny _ _ _ _ _ _ _ (World.drew V)
    have hS0 : Below V.heap.size V V.drew := (Below.refl _ _).drew
    have hz0 : V.heap.size ≤ V.drew.heap.size := Nat.le_refl _
    generalize World.drew V = Vd at *
    have hwk : IntKind.i64.wrap (p.kind - 1) = (kj : Int) := by rw [hk1]; exact IntWalk.i64_in _ (by omega)
    have hwv : IntKind.i64.wrap (p.view - 1) = (vj : Int) := by rw [hv1]; exact IntWalk.i64_in _ (by omega)
    refine any_of_tail 14 14 (fun w' => Below V.heap.size V w') (by kernel_rfl) hS0 (fun hS => ?_)
    refine headH_take (i := 1) (v := ?_) rfl (by kernel_rfl) (fun _ _ _ h => h) (Or.inl ⟨by rfl, ?_⟩) (by assumption) ?_; rotate_left; (· intro w' hSw; (try dsimp only at hSw); have z0 := ((bcell hSw).1 _ _ hbl).trans k0; have z1 := ((bcell hSw).1 _ _ hbl).trans k1; clear hSw; (try simp only [List.getElem_toArray, List.getElem_cons_zero, List.getElem_cons_succ]); go_simp; (try with_reducible rfl)); (try simp only [List.getElem_toArray, List.getElem_cons_zero, List.getElem_cons_succ]); (try dsimp only [Act.put]); (try simp only [List.setIfInBounds_toArray, List.set_cons_zero, List.set_cons_succ])
    refine headH_take (i := 2) (v := ?_) rfl (by kernel_rfl) (fun _ _ _ h => h) (Or.inl ⟨by rfl, ?_⟩) (by assumption) ?_; rotate_left; (· intro w' hSw; (try dsimp only at hSw); have z0 := ((bcell hSw).1 _ _ hbl).trans k0; have z1 := ((bcell hSw).1 _ _ hbl).trans k1; clear hSw; (try simp only [List.getElem_toArray, List.getElem_cons_zero, List.getElem_cons_succ]); go_simp; (try with_reducible rfl)); (try simp only [List.getElem_toArray, List.getElem_cons_zero, List.getElem_cons_succ]); (try dsimp only [Act.put]); (try simp only [List.setIfInBounds_toArray, List.set_cons_zero, List.set_cons_succ])
    refine headH_take (i := 3) (v := ?_) rfl (by kernel_rfl) (fun _ _ _ h => h) (Or.inl ⟨by rfl, ?_⟩) (by assumption) ?_; rotate_left; (· intro w' hSw; (try dsimp only at hSw); have z0 := ((bcell hSw).1 _ _ hbl).trans k0; have z1 := ((bcell hSw).1 _ _ hbl).trans k1; clear hSw; (try simp only [List.getElem_toArray, List.getElem_cons_zero, List.getElem_cons_succ]); go_simp; (try with_reducible rfl)); (try simp only [List.getElem_toArray, List.getElem_cons_zero, List.getElem_cons_succ]); (try dsimp only [Act.put]); (try simp only [List.setIfInBounds_toArray, List.set_cons_zero, List.set_cons_succ])
    refine headH_take (i := 8) (v := ?_) rfl (by kernel_rfl) (fun _ _ _ h => h) (Or.inl ⟨by rfl, ?_⟩) (by assumption) ?_; rotate_left; (· intro w' hSw; (try dsimp only at hSw); have z0 := ((bcell hSw).1 _ _ hbl).trans k0; have z1 := ((bcell hSw).1 _ _ hbl).trans k1; clear hSw; (try simp only [List.getElem_toArray, List.getElem_cons_zero, List.getElem_cons_succ]); go_simp; (try with_reducible rfl)); (try simp only [List.getElem_toArray, List.getElem_cons_zero, List.getElem_cons_succ]); (try dsimp only [Act.put]); (try simp only [List.setIfInBounds_toArray, List.set_cons_zero, List.set_cons_succ])
    refine headH_take (i := 9) (v := ?_) rfl (by kernel_rfl) (fun _ _ _ h => h) (Or.inl ⟨by rfl, ?_⟩) (by assumption) ?_; rotate_left; (· intro w' hSw; (try dsimp only at hSw); have z0 := ((bcell hSw).1 _ _ hbl).trans k0; have z1 := ((bcell hSw).1 _ _ hbl).trans k1; clear hSw; (try simp only [List.getElem_toArray, List.getElem_cons_zero, List.getElem_cons_succ]); go_simp; (try with_reducible rfl)); (try simp only [List.getElem_toArray, List.getElem_cons_zero, List.getElem_cons_succ]); (try dsimp only [Act.put]); (try simp only [List.setIfInBounds_toArray, List.set_cons_zero, List.set_cons_succ])
    refine headH_take (i := 10) (v := ?_) rfl (by kernel_rfl) (fun _ _ _ h => h) (Or.inl ⟨by rfl, ?_⟩) (by assumption) ?_; rotate_left; (· intro w' hSw; (try dsimp only at hSw); have z0 := ((bcell hSw).1 _ _ hbl).trans k0; have z1 := ((bcell hSw).1 _ _ hbl).trans k1; clear hSw; (try simp only [List.getElem_toArray, List.getElem_cons_zero, List.getElem_cons_succ]); go_simp; (try with_reducible rfl)); (try simp only [List.getElem_toArray, List.getElem_cons_zero, List.getElem_cons_succ]); (try dsimp only [Act.put]); (try simp only [List.setIfInBounds_toArray, List.set_cons_zero, List.set_cons_succ])
    clear hwk hwv k0 k1
    refine headH_all (rs := [0]) (by kernel_rfl) (by simp) (by kernel_rfl) ?_; intro i0 hi0; simp only [List.mem_cons, List.not_mem_nil, or_false] at hi0
    subst hi0
    (refine headH_op rfl (fun K hK => ?_); (try simp only [List.getElem_toArray, List.getElem_cons_zero, List.getElem_cons_succ]); go_simp)
    refine (HKW.out _).mono ?_
    rintro e W1 ⟨b1, rfl, hb1a, hb1b, hb1c, hb1⟩
    have HS1 := Lib.hid (hS0.trans (hb1.mono hz0))
    have c1 := hb1c kj hk2
    rw [hk3] at c1
    clear hb1c
    refine hK.out _ _ HS1.out (fun hS => ?_)
    clear hK K
    (try simp only [List.getElem_toArray, List.getElem_cons_zero, List.getElem_cons_succ]); (try dsimp only [Act.put]); (try simp only [List.setIfInBounds_toArray, List.set_cons_zero, List.set_cons_succ])
    have hkI : (kj : Int) < 3 := by omega
    have hwj : IntKind.i64.wrap (kj : Int) = (kj : Int) := IntWalk.i64_in _ (by omega)
    have hwj2 : IntKind.i64.wrap (vj : Int) = (vj : Int) := IntWalk.i64_in _ (by omega)
    have hvI : (vj : Int) < 2 := by omega
    have hz1 := HS1.out.size
    have ha1 : ∀ w : World, (Op.stringOp .add ⟨(kindT p.kind).toArray⟩ ⟨#[32]⟩).run Tryz.prog w = .ok (.string ⟨(kindT p.kind ++ [32]).toArray⟩) w := fun w => run_string_add_lists w (kindT p.kind) [32] (by omega) (by decide)
    have ha2 : ∀ w : World, (Op.stringOp .add ⟨(kindT p.kind ++ [32]).toArray⟩ ⟨(viewT p.view).toArray⟩).run Tryz.prog w = .ok (.string ⟨(kindT p.kind ++ [32] ++ viewT p.view).toArray⟩) w := fun w => run_string_add_lists w (kindT p.kind ++ [32]) (viewT p.view) (by rw [List.length_append, List.length_singleton]; omega) (by omega)
    refine headH_take (i := 4) (v := ?_) rfl (by kernel_rfl) (fun _ _ _ h => h) (Or.inl ⟨by rfl, ?_⟩) (by assumption) ?_; rotate_left; (· intro w' hSw; clear hSw; (try simp only [List.getElem_toArray, List.getElem_cons_zero, List.getElem_cons_succ]); go_simp; (try with_reducible rfl)); (try simp only [List.getElem_toArray, List.getElem_cons_zero, List.getElem_cons_succ]); (try dsimp only [Act.put]); (try simp only [List.setIfInBounds_toArray, List.set_cons_zero, List.set_cons_succ])
    refine headH_all (rs := [5, 7]) (by kernel_rfl) (by simp) (by kernel_rfl) ?_; intro i0 hi0; simp only [List.mem_cons, List.not_mem_nil, or_false] at hi0
    rcases hi0 with rfl | rfl
    · (refine headH_op rfl (fun K hK => ?_); (try simp only [List.getElem_toArray, List.getElem_cons_zero, List.getElem_cons_succ]); go_simp)
      (refine hK.out _ _ HS1.out (fun hS => ?_); clear hK K; (try simp only [List.getElem_toArray, List.getElem_cons_zero, List.getElem_cons_succ]); (try dsimp only [Act.put]); (try simp only [List.setIfInBounds_toArray, List.set_cons_zero, List.set_cons_succ]))
      refine headH_take (i := 6) (v := ?_) rfl (by kernel_rfl) (fun _ _ _ h => h) (Or.inl ⟨by rfl, ?_⟩) (by assumption) ?_; rotate_left; (· intro w' hSw; clear hSw; (try simp only [List.getElem_toArray, List.getElem_cons_zero, List.getElem_cons_succ]); go_simp; (try with_reducible rfl)); (try simp only [List.getElem_toArray, List.getElem_cons_zero, List.getElem_cons_succ]); (try dsimp only [Act.put]); (try simp only [List.setIfInBounds_toArray, List.set_cons_zero, List.set_cons_succ])
      refine headH_all (rs := [7]) (by kernel_rfl) (by simp) (by kernel_rfl) ?_; intro i0 hi0; simp only [List.mem_cons, List.not_mem_nil, or_false] at hi0
      subst hi0
      (refine headH_op rfl (fun K hK => ?_); (try simp only [List.getElem_toArray, List.getElem_cons_zero, List.getElem_cons_succ]); go_simp)
      refine (HVW.out _).mono ?_
      rintro e W2 ⟨b2, rfl, hb2a, hb2b, hb2c, hb2⟩
      have HS2 := Lib.hid (HS1.out.trans (hb2.mono hz1))
      have c2 := hb2c vj hv2
      rw [hv3] at c2
      clear hb2c
      (refine hK.out _ _ HS2.out (fun hS => ?_); clear hK K; (try simp only [List.getElem_toArray, List.getElem_cons_zero, List.getElem_cons_succ]); (try dsimp only [Act.put]); (try simp only [List.setIfInBounds_toArray, List.set_cons_zero, List.set_cons_succ]))
      refine headH_take (i := 11) (v := ?_) rfl (by kernel_rfl) (fun _ _ _ h => h) (Or.inl ⟨by rfl, ?_⟩) (by assumption) ?_; rotate_left; (· intro w' hSw; clear hSw; (try simp only [List.getElem_toArray, List.getElem_cons_zero, List.getElem_cons_succ]); go_simp; (try with_reducible rfl)); (try simp only [List.getElem_toArray, List.getElem_cons_zero, List.getElem_cons_succ]); (try dsimp only [Act.put]); (try simp only [List.setIfInBounds_toArray, List.set_cons_zero, List.set_cons_succ])
      refine headH_all (rs := [12]) (by kernel_rfl) (by simp) (by kernel_rfl) ?_; intro i0 hi0; simp only [List.mem_cons, List.not_mem_nil, or_false] at hi0
      subst hi0
      (refine headH_op rfl (fun K hK => ?_); (try simp only [List.getElem_toArray, List.getElem_cons_zero, List.getElem_cons_succ]); go_simp)
      (refine hK.out _ _ HS2.out (fun hS => ?_); clear hK K; (try simp only [List.getElem_toArray, List.getElem_cons_zero, List.getElem_cons_succ]); (try dsimp only [Act.put]); (try simp only [List.setIfInBounds_toArray, List.set_cons_zero, List.set_cons_succ]))
      refine headH_take (i := 13) (v := ?_) rfl (by kernel_rfl) (fun _ _ _ h => h) (Or.inl ⟨by rfl, ?_⟩) (by assumption) ?_; rotate_left; (· intro w' hSw; clear hSw; (try simp only [List.getElem_toArray, List.getElem_cons_zero, List.getElem_cons_succ]); go_simp; (try with_reducible rfl)); (try simp only [List.getElem_toArray, List.getElem_cons_zero, List.getElem_cons_succ]); (try dsimp only [Act.put]); (try simp only [List.setIfInBounds_toArray, List.set_cons_zero, List.set_cons_succ])
      (change tailL _ _ _ _ _ _ _ _; refine ⟨by kernel_rfl, ?_⟩; simp only [List.drop_succ_cons, List.drop_zero]; go_wp2_with fail; go_meet; exact ⟨by rw [HT1.out]; simp, HS2⟩)
    · (refine headH_op rfl (fun K hK => ?_); (try simp only [List.getElem_toArray, List.getElem_cons_zero, List.getElem_cons_succ]); go_simp)
      refine (HVW.out _).mono ?_
      rintro e W2 ⟨b2, rfl, hb2a, hb2b, hb2c, hb2⟩
      have HS2 := Lib.hid (HS1.out.trans (hb2.mono hz1))
      have c2 := hb2c vj hv2
      rw [hv3] at c2
      clear hb2c
      have c3 := ((bcell hb2).1 _ _ hb1b).trans c1
      (refine hK.out _ _ HS2.out (fun hS => ?_); clear hK K; (try simp only [List.getElem_toArray, List.getElem_cons_zero, List.getElem_cons_succ]); (try dsimp only [Act.put]); (try simp only [List.setIfInBounds_toArray, List.set_cons_zero, List.set_cons_succ]))
      refine headH_take (i := 11) (v := ?_) rfl (by kernel_rfl) (fun _ _ _ h => h) (Or.inl ⟨by rfl, ?_⟩) (by assumption) ?_; rotate_left; (· intro w' hSw; clear hSw; (try simp only [List.getElem_toArray, List.getElem_cons_zero, List.getElem_cons_succ]); go_simp; (try with_reducible rfl)); (try simp only [List.getElem_toArray, List.getElem_cons_zero, List.getElem_cons_succ]); (try dsimp only [Act.put]); (try simp only [List.setIfInBounds_toArray, List.set_cons_zero, List.set_cons_succ])
      refine headH_all (rs := [5, 12]) (by kernel_rfl) (by simp) (by kernel_rfl) ?_; intro i0 hi0; simp only [List.mem_cons, List.not_mem_nil, or_false] at hi0
      rcases hi0 with rfl | rfl
      · (refine headH_op rfl (fun K hK => ?_); (try simp only [List.getElem_toArray, List.getElem_cons_zero, List.getElem_cons_succ]); go_simp)
        (refine hK.out _ _ HS2.out (fun hS => ?_); clear hK K; (try simp only [List.getElem_toArray, List.getElem_cons_zero, List.getElem_cons_succ]); (try dsimp only [Act.put]); (try simp only [List.setIfInBounds_toArray, List.set_cons_zero, List.set_cons_succ]))
        refine headH_take (i := 6) (v := ?_) rfl (by kernel_rfl) (fun _ _ _ h => h) (Or.inl ⟨by rfl, ?_⟩) (by assumption) ?_; rotate_left; (· intro w' hSw; clear hSw; (try simp only [List.getElem_toArray, List.getElem_cons_zero, List.getElem_cons_succ]); go_simp; (try with_reducible rfl)); (try simp only [List.getElem_toArray, List.getElem_cons_zero, List.getElem_cons_succ]); (try dsimp only [Act.put]); (try simp only [List.setIfInBounds_toArray, List.set_cons_zero, List.set_cons_succ])
        refine headH_all (rs := [12]) (by kernel_rfl) (by simp) (by kernel_rfl) ?_; intro i0 hi0; simp only [List.mem_cons, List.not_mem_nil, or_false] at hi0
        subst hi0
        (refine headH_op rfl (fun K hK => ?_); (try simp only [List.getElem_toArray, List.getElem_cons_zero, List.getElem_cons_succ]); go_simp)
        (refine hK.out _ _ HS2.out (fun hS => ?_); clear hK K; (try simp only [List.getElem_toArray, List.getElem_cons_zero, List.getElem_cons_succ]); (try dsimp only [Act.put]); (try simp only [List.setIfInBounds_toArray, List.set_cons_zero, List.set_cons_succ]))
        refine headH_take (i := 13) (v := ?_) rfl (by kernel_rfl) (fun _ _ _ h => h) (Or.inl ⟨by rfl, ?_⟩) (by assumption) ?_; rotate_left; (· intro w' hSw; clear hSw; (try simp only [List.getElem_toArray, List.getElem_cons_zero, List.getElem_cons_succ]); go_simp; (try with_reducible rfl)); (try simp only [List.getElem_toArray, List.getElem_cons_zero, List.getElem_cons_succ]); (try dsimp only [Act.put]); (try simp only [List.setIfInBounds_toArray, List.set_cons_zero, List.set_cons_succ])
        (change tailL _ _ _ _ _ _ _ _; refine ⟨by kernel_rfl, ?_⟩; simp only [List.drop_succ_cons, List.drop_zero]; go_wp2_with fail; go_meet; exact ⟨by rw [HT1.out]; simp, HS2⟩)
      · (refine headH_op rfl (fun K hK => ?_); (try simp only [List.getElem_toArray, List.getElem_cons_zero, List.getElem_cons_succ]); go_simp)
        (refine hK.out _ _ HS2.out (fun hS => ?_); clear hK K; (try simp only [List.getElem_toArray, List.getElem_cons_zero, List.getElem_cons_succ]); (try dsimp only [Act.put]); (try simp only [List.setIfInBounds_toArray, List.set_cons_zero, List.set_cons_succ]))
        refine headH_all (rs := [5]) (by kernel_rfl) (by simp) (by kernel_rfl) ?_; intro i0 hi0; simp only [List.mem_cons, List.not_mem_nil, or_false] at hi0
        subst hi0
        (refine headH_op rfl (fun K hK => ?_); (try simp only [List.getElem_toArray, List.getElem_cons_zero, List.getElem_cons_succ]); go_simp)
        (refine hK.out _ _ HS2.out (fun hS => ?_); clear hK K; (try simp only [List.getElem_toArray, List.getElem_cons_zero, List.getElem_cons_succ]); (try dsimp only [Act.put]); (try simp only [List.setIfInBounds_toArray, List.set_cons_zero, List.set_cons_succ]))
        refine headH_take (i := 6) (v := ?_) rfl (by kernel_rfl) (fun _ _ _ h => h) (Or.inl ⟨by rfl, ?_⟩) (by assumption) ?_; rotate_left; (· intro w' hSw; clear hSw; (try simp only [List.getElem_toArray, List.getElem_cons_zero, List.getElem_cons_succ]); go_simp; (try with_reducible rfl)); (try simp only [List.getElem_toArray, List.getElem_cons_zero, List.getElem_cons_succ]); (try dsimp only [Act.put]); (try simp only [List.setIfInBounds_toArray, List.set_cons_zero, List.set_cons_succ])
        refine headH_take (i := 13) (v := ?_) rfl (by kernel_rfl) (fun _ _ _ h => h) (Or.inl ⟨by rfl, ?_⟩) (by assumption) ?_; rotate_left; (· intro w' hSw; clear hSw; (try simp only [List.getElem_toArray, List.getElem_cons_zero, List.getElem_cons_succ]); go_simp; (try with_reducible rfl)); (try simp only [List.getElem_toArray, List.getElem_cons_zero, List.getElem_cons_succ]); (try dsimp only [Act.put]); (try simp only [List.setIfInBounds_toArray, List.set_cons_zero, List.set_cons_succ])
        (change tailL _ _ _ _ _ _ _ _; refine ⟨by kernel_rfl, ?_⟩; simp only [List.drop_succ_cons, List.drop_zero]; go_wp2_with fail; go_meet; exact ⟨by rw [HT1.out]; simp, HS2⟩)
  case rest =>
    clear HKW HVW hk1 hk2 hk3 hv1 hv2 hv3 hkl hvl
    obtain ⟨rfl, HC⟩ := hcut
    rename World => wc
    have HVc := Lib.hid ((HC.out.block _ hbl).trans HV.out)
    have hpl : ∀ j, wc.cell? ⟨w.heap.size, j, none⟩ = (#[.int .i64 p.kind, .int .i64 p.view, .int .i64 p.z, .int .i64 p.first, .int .i64 p.pitch, .int .i64 p.strips, .int .i64 p.spill, .int .i64 p.olo, .int .i64 p.ohi, .int .i64 p.clo, .int .i64 p.chi, .int .i64 p.jitter, .int .i64 p.least, .slice p.da p.dn p.dc, .slice p.ea p.en p.ec] : Array Value)[j]? := fun j => cell_of_row _ _ j _ _ _ HVc.out
    go_upto_region 3 with (go_at_call 47; refine (HNW.out _).mono ?_; rintro e w2 ⟨nb, rfl, hna, hnb, hnc, hb2⟩)
    clear hpl
    have HB2 := Lib.hid (HC.out.trans (hb2.mono HC.out.size))
    have HN := Lib.hid hnc
    have HNB := Lib.hid hnb
    have HBw := Lib.hid (HB.out.trans (HB2.out.mono HB.out.size))
    have HV2 := Lib.hid ((HB2.out.block _ hbl).trans HV.out)
    clear hna hnb hnc hb2 HC HVc HNW HB HV hbl HB2
    go_wp2
    go_loopw [3, 5] (fun s3 s5 wr => ∃ i : Nat, i ≤ 11 ∧ s5 = .int .i64 (i : Int) ∧ s3 = .string ⟨(txN p (1 + i)).toArray⟩ ∧ Hid (Below w2.heap.size w2 wr)) (fun _ s5 _ => 11 - (intOf s5).toNat)
    case atStart => exact ⟨0, by omega, rfl, rfl, Lib.hid (Below.refl _ _)⟩
    case round =>
      obtain ⟨i, hi, rfl, rfl, HW⟩ := hrel
      by_cases hlt : i < 11
      · have hlt' : (i : Int) < 11 := by omega
        have d0 := ((bcell HW.out).1 _ _ HNB.out).trans (HN.out i hlt)
        have HTX := Lib.hid (tx_step (p := p) (m := 1 + i) (by rw [ws_len]; omega))
        rw [ws_n hlt] at HTX
        have hl := HL.out (1 + i)
        have hx : -1000000000 ≤ (nsOf p).getD i 0 ∧ (nsOf p).getD i 0 ≤ 1000000000 := by
          rw [List.getD_eq_getElem?_getD, List.getElem?_eq_getElem (show i < (nsOf p).length from hlt)]
          exact HP.out.ns _ (List.getElem_mem _)
        have hil := (itoa_len (n := (nsOf p).getD i 0) ⟨by omega, by omega⟩).2
        have HDC := Lib.hid (fun (W : World) => r1Decimal_any ((nsOf p).getD i 0) ⟨by omega, by omega⟩ W)
        have HNX := Lib.hid (show txN p (1 + (i + 1)) = (txN p (1 + i) ++ [32]) ++ Lib.itoa ((nsOf p).getD i 0) from by rw [← HTX.out]; congr 1)
        generalize (nsOf p).getD i 0 = x at *
        generalize Lib.itoa x = X at *
        generalize txN p (1 + i) = T at *
        clear HTX
        have ha1 : ∀ w : World, (Op.stringOp .add ⟨T.toArray⟩ ⟨#[32]⟩).run Tryz.prog w = .ok (.string ⟨(T ++ [32]).toArray⟩) w := fun w => run_string_add_lists w T [32] (by omega) (by decide)
        have ha2 : ∀ w : World, (Op.stringOp .add ⟨(T ++ [32]).toArray⟩ ⟨X.toArray⟩).run Tryz.prog w = .ok (.string ⟨(T ++ [32] ++ X).toArray⟩) w := fun w => run_string_add_lists w (T ++ [32]) X (by rw [List.length_append, List.length_singleton]; omega) (by omega)
        go_wp2_with (go_at_call 26; refine (HDC.out _).mono ?_; rintro e w3 ⟨rfl, rfl⟩)
        go_roundw
        case rel => exact ⟨i + 1, by omega, by go_num, by rw [HNX.out]; simp, HW⟩
        case measure => simp [intOf]; omega
      · obtain rfl : i = 11 := by omega
        have hlt' : ¬ (11 : Int) < 11 := by omega
        clear HN HNB
        have hw2 := HBw.out.size
        go_wp2
        go_loopw [3, 6] (fun s3 s6 wr => ∃ i : Nat, i ≤ p.dn ∧ s6 = .int .i64 (i : Int) ∧ s3 = .string ⟨(txN p (mD i)).toArray⟩ ∧ Hid (Below w2.heap.size w2 wr)) (fun _ s6 _ => p.dn - (intOf s6).toNat)
        case atStart => exact ⟨0, by omega, rfl, rfl, HW⟩
        case round =>
          clear HW
          obtain ⟨i, hi, rfl, rfl, HW⟩ := hrel
          have k13 := cell_of_row _ _ 13 _ _ _ ((HW.out.block _ (Array.getElem?_eq_some_iff.1 HV2.out).1).trans HV2.out)
          have hdn := HP.out.dn
          by_cases hlt : i < p.dn
          · have hlt' : (i : Int) < (p.dn : Int) := by omega
            rcases HM.out.2.2.1 with h | ⟨db, dof, hda, hdB, hdc⟩
            · omega
            rw [hda] at k13
            obtain ⟨e0, e1, e2⟩ := hdc i hlt
            have HBr := Lib.hid (HBw.out.trans (HW.out.mono hw2))
            have d0 := ((bcell HBr.out).1 _ _ hdB).trans e0
            have d1 := ((bcell HBr.out).1 _ _ hdB).trans e1
            have d2 := ((bcell HBr.out).1 _ _ hdB).trans e2
            clear e0 e1 e2 hdc hda hdB
            obtain ⟨⟨h1, h2⟩, ⟨h3, h4⟩, ⟨h5, h6⟩⟩ := HP.out.ds i hlt
            have HTX := Lib.hid (tx_step (p := p) (m := 13 + i) (by rw [ws_len]; unfold drl; rw [if_neg (by omega)]; omega))
            rw [ws_d hlt] at HTX
            have HNX := Lib.hid (show txN p (mD (i + 1)) = (txN p (13 + i) ++ [32]) ++ drT (toDR (p.ds i)) from by rw [← HTX.out]; unfold mD; rw [if_neg (by omega)]; congr 1)
            have hl := HL.out (13 + i)
            have hll := HL.out (mD (i + 1))
            have HDR := Lib.hid (show drT (toDR (p.ds i)) = Lib.itoa (p.ds i).time ++ ([58] ++ Lib.itoa (p.ds i).lo ++ ([58] ++ Lib.itoa (p.ds i).hi)) from by simp [drT, toDR, jn])
            rw [HNX.out, HDR.out] at hll
            have HD1 := Lib.hid (fun (W : World) => r1Decimal_any (p.ds i).time ⟨by omega, by omega⟩ W)
            have HD2 := Lib.hid (fun (W : World) => r1Decimal_any (p.ds i).lo ⟨by omega, by omega⟩ W)
            have HD3 := Lib.hid (fun (W : World) => r1Decimal_any (p.ds i).hi ⟨by omega, by omega⟩ W)
            rw [HDR.out] at HNX
            by_cases h0 : i = 0
            · have h0' : ((i : Int) == 0) = true := by rw [h0]; rfl
              have hmd : mD i = 12 := by unfold mD; rw [if_pos h0]
              have HT0 := Lib.hid (show txN p (13 + i) = (txN p 12 ++ [32]) ++ driftT from by
                have := tx_step (p := p) (m := 12) (by rw [ws_len]; unfold drl; rw [if_neg (by omega)]; omega)
                rw [ws_d0 (by omega)] at this
                rw [h0]
                exact this)
              have hl0 := HL.out 12
              have ha0 : ∀ w : World, (Op.stringOp .add ⟨(txN p 12).toArray⟩ ⟨#[32, 100, 114, 105, 102, 116]⟩).run Tryz.prog w = .ok (.string ⟨(txN p (13 + i)).toArray⟩) w := fun w => by
                rw [HT0.out]
                have := run_string_add_lists (P := Tryz.prog) w (txN p 12) [32, 100, 114, 105, 102, 116] (by omega) (by decide)
                simpa [driftT] using this
              rw [hmd]
              clear hmd h0
              generalize txN p 12 = T0 at *
              generalize txN p (13 + i) = T at *
              (generalize p.ds i = dv at *; obtain ⟨tm, lo, hi'⟩ := dv; dsimp only at h1 h2 h3 h4 h5 h6 d0 d1 d2 HD1 HD2 HD3 HNX hll HDR; clear HDR HTX; generalize Lib.itoa tm = X1 at *; generalize Lib.itoa lo = X2 at *; generalize Lib.itoa hi' = X3 at *; obtain ⟨T1, T2, T3, T4, T5, T6, s1, s2, s3, s4, s5, s6, HT6⟩ := six_adds T X1 X2 X3 hll; go_upto_region 13 with (fail); have hcn := heap_alloc_new wr (.cells #[.int .i64 tm, .int .i64 lo, .int .i64 hi'] 71); have HBn := Lib.hid (HW.out.trans ((fp_below wr (.cells #[.int .i64 tm, .int .i64 lo, .int .i64 hi'] 71)).mono HW.out.size)); have hz := (Array.getElem?_eq_some_iff.1 hcn).1; generalize World.alloc wr _ = V at *; have g0 := cell_of_row _ _ 0 _ _ _ hcn; have g1 := cell_of_row _ _ 1 _ _ _ hcn; have g2 := cell_of_row _ _ 2 _ _ _ hcn; clear hcn HW HBr; (refine wp_region_calm (V.heap.size) (by kernel_rfl) (by kernel_rfl) ?_; (repeat (first | go_big_quiet_step ((go_at_call 26; (first | with_reducible exact Calls.calm_same (HD1.out _) | with_reducible exact Calls.calm_same (HD2.out _) | with_reducible exact Calls.calm_same (HD3.out _)))) | quiet_step ((go_at_call 26; (first | with_reducible exact Calls.calm_same (HD1.out _) | with_reducible exact Calls.calm_same (HD2.out _) | with_reducible exact Calls.calm_same (HD3.out _)))))); refine wpQuiet_nil ?_; intro _ hw'; obtain ⟨xq, hw''⟩ := hw'; subst hw''); have HBx := Lib.hid (HBn.out.trans (xq.2.mono HBn.out.size)); clear HBn s1 s2 s3 s4 s5 s6 HD1 HD2 HD3 g0 g1 g2 d0 d1 d2 k13)
              go_wp2
              go_roundw
              case rel => exact ⟨i + 1, by omega, by go_num, by rw [HNX.out, HT6.out], HBx⟩
              case measure => simp [intOf]; omega
            · have hid : mD i = 13 + i := by unfold mD; rw [if_neg h0]
              have h0' : ((i : Int) == 0) = false := beq_eq_false_iff_ne.2 (by omega)
              rw [hid]
              generalize txN p (13 + i) = T at *
              (generalize p.ds i = dv at *; obtain ⟨tm, lo, hi'⟩ := dv; dsimp only at h1 h2 h3 h4 h5 h6 d0 d1 d2 HD1 HD2 HD3 HNX hll HDR; clear HDR HTX; generalize Lib.itoa tm = X1 at *; generalize Lib.itoa lo = X2 at *; generalize Lib.itoa hi' = X3 at *; obtain ⟨T1, T2, T3, T4, T5, T6, s1, s2, s3, s4, s5, s6, HT6⟩ := six_adds T X1 X2 X3 hll; go_upto_region 13 with (fail); have hcn := heap_alloc_new wr (.cells #[.int .i64 tm, .int .i64 lo, .int .i64 hi'] 71); have HBn := Lib.hid (HW.out.trans ((fp_below wr (.cells #[.int .i64 tm, .int .i64 lo, .int .i64 hi'] 71)).mono HW.out.size)); have hz := (Array.getElem?_eq_some_iff.1 hcn).1; generalize World.alloc wr _ = V at *; have g0 := cell_of_row _ _ 0 _ _ _ hcn; have g1 := cell_of_row _ _ 1 _ _ _ hcn; have g2 := cell_of_row _ _ 2 _ _ _ hcn; clear hcn HW HBr; (refine wp_region_calm (V.heap.size) (by kernel_rfl) (by kernel_rfl) ?_; (repeat (first | go_big_quiet_step ((go_at_call 26; (first | with_reducible exact Calls.calm_same (HD1.out _) | with_reducible exact Calls.calm_same (HD2.out _) | with_reducible exact Calls.calm_same (HD3.out _)))) | quiet_step ((go_at_call 26; (first | with_reducible exact Calls.calm_same (HD1.out _) | with_reducible exact Calls.calm_same (HD2.out _) | with_reducible exact Calls.calm_same (HD3.out _)))))); refine wpQuiet_nil ?_; intro _ hw'; obtain ⟨xq, hw''⟩ := hw'; subst hw''); have HBx := Lib.hid (HBn.out.trans (xq.2.mono HBn.out.size)); clear HBn s1 s2 s3 s4 s5 s6 HD1 HD2 HD3 g0 g1 g2 d0 d1 d2 k13)
              go_wp2
              go_roundw
              case rel => exact ⟨i + 1, by omega, by go_num, by rw [HNX.out, HT6.out], HBx⟩
              case measure => simp [intOf]; omega
          · obtain rfl : i = p.dn := by omega
            have hlt' : ¬ (p.dn : Int) < (p.dn : Int) := by omega
            rw [mD_end]
            clear hlt hi hdn
            rename World => w3
            have HB3 := Lib.hid (HBw.out.trans (HW.out.mono hw2))
            have HV3 := Lib.hid ((HW.out.block _ (Array.getElem?_eq_some_iff.1 HV2.out).1).trans HV2.out)
            have hw3 := HB3.out.size
            clear HBw HV2 HW hw2
            have hm0 : mE p 0 = 12 + drl p := by unfold mE; rw [if_pos rfl]
            rw [← hm0]
            clear hm0
            go_wp2
            clear k13 hlt'
            go_loopw [3, 8] (fun s3 s8 wr => ∃ i : Nat, i ≤ p.en ∧ s8 = .int .i64 (i : Int) ∧ s3 = .string ⟨(txN p (mE p i)).toArray⟩ ∧ Hid (Below w3.heap.size w3 wr)) (fun _ s8 _ => p.en - (intOf s8).toNat)
            case atStart => exact ⟨0, by omega, rfl, rfl, Lib.hid (Below.refl _ _)⟩
            case round =>
              obtain ⟨i, hi, rfl, rfl, HW⟩ := hrel
              have k14 := cell_of_row _ _ 14 _ _ _ ((HW.out.block _ (Array.getElem?_eq_some_iff.1 HV3.out).1).trans HV3.out)
              have hen := HP.out.en
              by_cases hlt : i < p.en
              · have hlt' : (i : Int) < (p.en : Int) := by omega
                rcases HM.out.2.2.2 with h | ⟨eb, eof, hea, heB, hec⟩
                · omega
                rw [hea] at k14
                have e0 := hec i hlt
                have HBr := Lib.hid (HB3.out.trans (HW.out.mono hw3))
                have d0 := ((bcell HBr.out).1 _ _ heB).trans e0
                clear e0 hec hea
                have hx := HP.out.es i hlt
                have HTX := Lib.hid (tx_step (p := p) (m := 12 + drl p + 1 + i) (by rw [ws_len]; unfold del; rw [if_neg (by omega)]; omega))
                rw [ws_e hlt] at HTX
                have HNX := Lib.hid (show txN p (mE p (i + 1)) = (txN p (12 + drl p + 1 + i) ++ [32]) ++ Lib.itoa (p.es i) from by rw [← HTX.out]; unfold mE; rw [if_neg (by omega)]; congr 1)
                have hll := HL.out (mE p (i + 1))
                rw [HNX.out] at hll
                have HDC := Lib.hid (fun (W : World) => r1Decimal_any (p.es i) ⟨by omega, by omega⟩ W)
                clear HTX
                by_cases h0 : i = 0
                · have h0' : ((i : Int) == 0) = true := by rw [h0]; rfl
                  have hmd : mE p i = 12 + drl p := by unfold mE; rw [if_pos h0]
                  have HT0 := Lib.hid (show txN p (12 + drl p + 1 + i) = (txN p (12 + drl p) ++ [32]) ++ deadT from by
                    have := tx_step (p := p) (m := 12 + drl p) (by rw [ws_len]; unfold del; rw [if_neg (by omega)]; omega)
                    rw [ws_e0 (by omega)] at this
                    rw [h0]
                    exact this)
                  have hl0 := HL.out (12 + drl p)
                  have ha0 : ∀ w : World, (Op.stringOp .add ⟨(txN p (12 + drl p)).toArray⟩ ⟨#[32, 100, 101, 97, 100]⟩).run Tryz.prog w = .ok (.string ⟨(txN p (12 + drl p + 1 + i)).toArray⟩) w := fun w => by
                    rw [HT0.out]
                    have := run_string_add_lists (P := Tryz.prog) w (txN p (12 + drl p)) [32, 100, 101, 97, 100] (by omega) (by decide)
                    simpa [deadT] using this
                  rw [hmd]
                  clear hmd h0 HT0
                  generalize txN p (12 + drl p) = T0 at *
                  generalize txN p (12 + drl p + 1 + i) = T at *
                  (generalize p.es i = X at *; generalize Lib.itoa X = X1 at *; obtain ⟨T1, T2, s1, s2, HT2⟩ := two_adds T X1 hll; go_wp2_with (go_at_call 26; refine (HDC.out _).mono ?_; rintro e w3 ⟨rfl, rfl⟩); go_roundw; (case rel => exact ⟨i + 1, by omega, by go_num, by rw [HNX.out, HT2.out], HW⟩); (case measure => simp [intOf]; omega))
                · have hid : mE p i = 12 + drl p + 1 + i := by unfold mE; rw [if_neg h0]
                  have h0' : ((i : Int) == 0) = false := beq_eq_false_iff_ne.2 (by omega)
                  rw [hid]
                  clear hid
                  generalize txN p (12 + drl p + 1 + i) = T at *
                  (generalize p.es i = X at *; generalize Lib.itoa X = X1 at *; obtain ⟨T1, T2, s1, s2, HT2⟩ := two_adds T X1 hll; go_wp2_with (go_at_call 26; refine (HDC.out _).mono ?_; rintro e w3 ⟨rfl, rfl⟩); go_roundw; (case rel => exact ⟨i + 1, by omega, by go_num, by rw [HNX.out, HT2.out], HW⟩); (case measure => simp [intOf]; omega))
              · obtain rfl : i = p.en := by omega
                have hlt' : ¬ (p.en : Int) < (p.en : Int) := by omega
                rw [mE_end]
                have HR := Lib.hid (HRES.out _ (HB3.out.trans (HW.out.mono hw3)))
                generalize txN p (12 + drl p + del p) = T at *
                go_wp2
                exact HR.out
end Go.Proofs.YtegimepmccilfaaGreatDoor
namespace Go.Proofs.YtegimepmccilfaaGreatDoor
open Go.RowKit
set_option linter.unusedVariables false
set_option linter.unusedSimpArgs false
theorem wa_size (w : World) (o : Obj) : (w.alloc o).heap.size = w.heap.size + 1 := by simp
set_option maxRecDepth 100000 in
set_option maxHeartbeats 4000000 in
theorem r1Print_any (a : Option Addr) (n c : Nat) (ps : Nat → PR) (w : World) (B : Nat) (hBw : B ≤ w.heap.size) (hP : Planes B w a n ps) (hC : checkB n ps = true) :
    Calls Tryz.prog 9 #[setupV a n c] w fun e w' => e = .returned (.string ⟨(filT (ppsOf n ps)).toArray⟩) ∧ Below w.heap.size w w' := by
  obtain ⟨hn, hP⟩ := hP
  obtain ⟨⟨hn1, hn2⟩, hok⟩ := check_ppb hC
  have HP := Lib.hid hP
  have HOK := Lib.hid hok
  have HFL := Lib.hid (fun k (hk : k ≤ n) => ft_len hC hk)
  have hS := HFL.out 0 (Nat.zero_le _)
  rw [ft_zero] at hS
  have HT0 := Lib.hid (ft_zero n ps)
  have HDC := Lib.hid (fun (W : World) => r1Decimal_any (n : Int) ⟨by omega, by omega⟩ W)
  have HRES := Lib.hid (show ∀ W' : World, Below w.heap.size w W' → (fun (e : Ending) (w' : World) => e = .returned (.string ⟨(filT (ppsOf n ps)).toArray⟩) ∧ Below w.heap.size w w') (.returned (.string ⟨(ftN n ps n).toArray⟩)) W' from fun W' hb => ⟨by rw [ft_end], hb⟩)
  generalize (fun (e : Ending) (w' : World) => e = .returned (.string ⟨(filT (ppsOf n ps)).toArray⟩) ∧ Below w.heap.size w w') = RES at *
  clear hP hok hC hn
  generalize Lib.itoa (n : Int) = X at *
  obtain ⟨T1, T2, s1, s2, HT2⟩ : ∃ T1 T2 : Tx, (∀ w : World, (Op.stringOp .add ⟨#[115, 101, 116, 117, 112, 32]⟩ ⟨X.toArray⟩).run Tryz.prog w = .ok (.string ⟨T1.toArray⟩) w) ∧ (∀ w : World, (Op.stringOp .add ⟨T1.toArray⟩ ⟨#[10]⟩).run Tryz.prog w = .ok (.string ⟨T2.toArray⟩) w) ∧ Hid (T2 = ftN n ps 0) := by
    simp only [List.length_append, List.length_cons, List.length_nil] at hS
    refine ⟨setupT ++ X, setupT ++ X ++ [10], add_to setupT X ?_, add_to _ [10] ?_, Lib.hid HT0.out.symm⟩ <;> (simp only [List.length_append, List.length_cons, List.length_nil]; omega)
  clear HT0 hS
  go_enter Tryz.func9, Tryz.ntmps9
  have hz0 : w.heap.size < (w.alloc (.cells #[.slice a n c] 24)).heap.size := by simp
  go_upto_region 1 with (fail)
  have HV := Lib.hid (heap_alloc_new w (.cells #[.slice a n c] 24))
  have HB := Lib.hid (fp_below w (.cells #[.slice a n c] 24))
  generalize World.alloc w _ = V at *
  have k0 := cell_of_row _ _ 0 _ _ _ HV.out
  go_wp2_with (go_at_call 26; refine (HDC.out _).mono ?_; rintro e w3 ⟨rfl, rfl⟩)
  rw [HT2.out]
  clear HDC s1 s2 HT2 k0
  go_loopw [3, 4] (fun s3 s4 wr => ∃ i : Nat, i ≤ n ∧ s4 = .int .i64 (i : Int) ∧ s3 = .string ⟨(ftN n ps i).toArray⟩ ∧ Hid (Below V.heap.size V wr)) (fun _ s4 _ => n - (intOf s4).toNat)
  case atStart => exact ⟨0, by omega, rfl, rfl, Lib.hid (Below.refl _ _)⟩
  case round =>
    obtain ⟨i, hi, rfl, rfl, HW⟩ := hrel
    have k0 := cell_of_row _ _ 0 _ _ _ ((HW.out.block _ hz0).trans HV.out)
    have HB0 := Lib.hid (HB.out.trans (HW.out.mono (Nat.le_of_lt hz0)))
    have hw2 := HB0.out.size
    by_cases hlt : i < n
    · rcases HP.out with hd | ⟨b, off, rfl, hbs, hcell⟩
      · omega
      obtain ⟨hat, hm⟩ := hcell i hlt
      have hat1 := hat.below HB0.out (Nat.lt_of_lt_of_le hbs hBw)
      have hm1 : (ps i).mem wr.heap.size wr := (hm.below (HB0.out.mono hBw)).up (Nat.le_trans hBw hw2)
      obtain ⟨c0, c1, c2, c3, c4, c5, c6, c7, c8, c9, c10, c11, c12, c13, c14⟩ := hat1
      have hll := HFL.out (i + 1) hlt
      rw [ft_step] at hll
      have HSt := Lib.hid (ft_step n ps i)
      have HLN := Lib.hid (r1line_any (ps i) (HOK.out i hlt) wr hm1)
      clear hat hm hm1 hcell
      generalize ppT (toPP (ps i)) = X at *
      generalize ftN n ps i = T at *
      obtain ⟨T1, T2, s1, s2, HT2⟩ : ∃ T1 T2 : Tx, (∀ w : World, (Op.stringOp .add ⟨T.toArray⟩ ⟨X.toArray⟩).run Tryz.prog w = .ok (.string ⟨T1.toArray⟩) w) ∧ (∀ w : World, (Op.stringOp .add ⟨T1.toArray⟩ ⟨#[10]⟩).run Tryz.prog w = .ok (.string ⟨T2.toArray⟩) w) ∧ Hid (T2 = (T ++ X) ++ [10]) := by
        simp only [List.length_append, List.length_cons, List.length_nil] at hll
        refine ⟨T ++ X, T ++ X ++ [10], add_to T X ?_, add_to _ [10] ?_, Lib.hid rfl⟩ <;> (simp only [List.length_append, List.length_cons, List.length_nil]; omega)
      generalize hq : ps i = q at *
      have HQ := Lib.hid hq
      clear hq hll
      go_wp2_with (go_at_call 27; refine HLN.out.mono ?_; rintro e w3 ⟨rfl, hb3⟩)
      go_roundw
      case rel => exact ⟨i + 1, hlt, by go_num, by rw [HSt.out, HT2.out], Lib.hid (HW.out.trans (hb3.mono HW.out.size))⟩
      case measure => simp [intOf]; omega
    · obtain rfl : i = n := by omega
      have HR := Lib.hid (HRES.out _ HB0.out)
      generalize ftN i ps i = T at *
      go_wp2
      exact HR.out
end Go.Proofs.YtegimepmccilfaaGreatDoor
