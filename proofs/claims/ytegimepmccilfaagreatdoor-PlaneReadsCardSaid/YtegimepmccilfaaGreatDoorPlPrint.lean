/- The walk of plane.Print. -/
import Derived.Test.YtegimepmccilfaaGreatDoorPlWrite
import Derived.Test.YtegimepmccilfaaGreatDoorGpB
import Derived.Test.YtegimepmccilfaaGreatDoorPlaneD
import Derived.Test.YtegimepmccilfaaGreatDoorRegTail
import Derived.Test.YtegimepmccilfaaGreatDoorRegHead
import Derived.Deep.CutBlock
namespace Go.Proofs.YtegimepmccilfaaGreatDoor
open Go.RowKit
set_option linter.unusedVariables false
set_option linter.unusedSimpArgs false
/-- the builder's text, and what is kept since w1 and since V -/
def PS (kb : Nat) (T : Tx) (w1 V W : World) : Prop := PW kb T W ∧ Below kb w1 W ∧ KB V W
theorem PS.below {kb : Nat} {T : Tx} {w1 V W W' : World} (h : PS kb T w1 V W) (hb : Below W.heap.size W W') : PS kb T w1 V W' := ⟨h.1.below hb, h.2.1.trans (hb.mono h.1.le), h.2.2.trans (KB.of_below hb)⟩
theorem PS.wrote {kb : Nat} {T T' : Tx} {w1 V W W' : World} (h : PS kb T w1 V W) (k : PW kb T' W' ∧ Below kb W W' ∧ KB W W') : PS kb T' w1 V W' := ⟨k.1, h.2.1.trans k.2.1, h.2.2.trans k.2.2⟩
theorem PS.text {kb : Nat} {T T' : Tx} {w1 V W : World} (h : PS kb T w1 V W) (e : T = T') : PS kb T' w1 V W := e ▸ h
theorem PS.since {kb : Nat} {T : Tx} {w1 V V' W : World} (h : PS kb T w1 V W) (k : KB V' V) : PS kb T w1 V' W := ⟨h.1, h.2.1, k.trans h.2.2⟩
theorem PS.start {kb : Nat} {T : Tx} {w1 V W : World} (h : PS kb T w1 V W) : PS kb T w1 W W := ⟨h.1, h.2.1, KB.refl _⟩
/-- the text with a line begun -/
def lnN (F : Tx) (p : PR) (m : Nat) : Tx := F ++ txN p m
theorem ln_step {F : Tx} {p : PR} {m : Nat} (h : m < (wsOf p).length) : lnN F p (m + 1) = lnN F p m ++ ([32] ++ (wsOf p).getD m []) := by
  unfold lnN
  rw [tx_step h]
  simp
theorem ln_len {F : Tx} {p : PR} (h : PPB p) (hF : F.length ≤ 40000) (m : Nat) : (lnN F p m).length ≤ 42000 := by
  have := tx_len h m
  unfold lnN
  rw [List.length_append]
  omega
theorem ln_one (F : Tx) (p : PR) : lnN F p 1 = F ++ (kindT p.kind ++ [32] ++ viewT p.view) := by
  unfold lnN
  rw [tx_one]
theorem five_adds (X1 X2 X3 : Tx) (h : ([32] ++ (X1 ++ ([58] ++ X2 ++ ([58] ++ X3)))).length ≤ 100000) : ∃ T2 T3 T4 T5 T6 : Tx,
    (∀ w : World, (Op.stringOp .add ⟨#[32]⟩ ⟨X1.toArray⟩).run Tryz.prog w = .ok (.string ⟨T2.toArray⟩) w) ∧
    (∀ w : World, (Op.stringOp .add ⟨T2.toArray⟩ ⟨#[58]⟩).run Tryz.prog w = .ok (.string ⟨T3.toArray⟩) w) ∧
    (∀ w : World, (Op.stringOp .add ⟨T3.toArray⟩ ⟨X2.toArray⟩).run Tryz.prog w = .ok (.string ⟨T4.toArray⟩) w) ∧
    (∀ w : World, (Op.stringOp .add ⟨T4.toArray⟩ ⟨#[58]⟩).run Tryz.prog w = .ok (.string ⟨T5.toArray⟩) w) ∧
    (∀ w : World, (Op.stringOp .add ⟨T5.toArray⟩ ⟨X3.toArray⟩).run Tryz.prog w = .ok (.string ⟨T6.toArray⟩) w) ∧
    Hid (T6 = [32] ++ (X1 ++ ([58] ++ X2 ++ ([58] ++ X3)))) := by
  simp only [List.length_append, List.length_cons, List.length_nil] at h
  refine ⟨[32] ++ X1, [32] ++ X1 ++ [58], [32] ++ X1 ++ [58] ++ X2, [32] ++ X1 ++ [58] ++ X2 ++ [58], [32] ++ X1 ++ [58] ++ X2 ++ [58] ++ X3, add_to [32] X1 ?_, add_to _ [58] ?_, add_to _ X2 ?_, add_to _ [58] ?_, add_to _ X3 ?_, Lib.hid (by simp)⟩ <;> (simp only [List.length_append, List.length_cons, List.length_nil]; omega)
/-- the array of kinds, of views -/
theorem pkind_at {k : Int} (h : 1 ≤ k ∧ k ≤ 3) : ∃ j : Nat, k = (j : Int) ∧ j < 4 ∧ (#[.string ⟨#[]⟩, .string ⟨#[115, 116, 114, 105, 112, 115]⟩, .string ⟨#[116, 117, 98, 101, 115]⟩, .string ⟨#[102, 105, 108, 109]⟩] : Array Value)[j]? = some (.string ⟨(kindT k).toArray⟩) := by
  have : k = 1 ∨ k = 2 ∨ k = 3 := by omega
  rcases this with e | e | e <;> subst e
  · exact ⟨1, by decide, by decide, rfl⟩
  · exact ⟨2, by decide, by decide, rfl⟩
  · exact ⟨3, by decide, by decide, rfl⟩
theorem pview_at {k : Int} (h : 1 ≤ k ∧ k ≤ 2) : ∃ j : Nat, k = (j : Int) ∧ j < 3 ∧ (#[.string ⟨#[]⟩, .string ⟨#[120]⟩, .string ⟨#[121]⟩] : Array Value)[j]? = some (.string ⟨(viewT k).toArray⟩) := by
  have : k = 1 ∨ k = 2 := by omega
  rcases this with e | e <;> subst e
  · exact ⟨1, by decide, by decide, rfl⟩
  · exact ⟨2, by decide, by decide, rfl⟩
theorem ns_at {W : World} {b : Nat} {p : PR} (h : W.heap[b]? = some (.cells #[.int .i64 p.z, .int .i64 p.first, .int .i64 p.pitch, .int .i64 p.strips, .int .i64 p.spill, .int .i64 p.olo, .int .i64 p.ohi, .int .i64 p.clo, .int .i64 p.chi, .int .i64 p.jitter, .int .i64 p.least] 3 (0, 0))) {i : Nat} (hi : i < 11) : W.cell? ⟨b, i, none⟩ = some (.int .i64 ((nsOf p).getD i 0)) := by
  match i, hi with
  | 0, _ => exact cell_of_row _ _ 0 _ _ _ h
  | 1, _ => exact cell_of_row _ _ 1 _ _ _ h
  | 2, _ => exact cell_of_row _ _ 2 _ _ _ h
  | 3, _ => exact cell_of_row _ _ 3 _ _ _ h
  | 4, _ => exact cell_of_row _ _ 4 _ _ _ h
  | 5, _ => exact cell_of_row _ _ 5 _ _ _ h
  | 6, _ => exact cell_of_row _ _ 6 _ _ _ h
  | 7, _ => exact cell_of_row _ _ 7 _ _ _ h
  | 8, _ => exact cell_of_row _ _ 8 _ _ _ h
  | 9, _ => exact cell_of_row _ _ 9 _ _ _ h
  | 10, _ => exact cell_of_row _ _ 10 _ _ _ h
set_option maxRecDepth 100000 in
set_option maxHeartbeats 4000000 in
theorem plPrint_ok (a : Option Addr) (n c : Nat) (ps : Nat → PR) (w : World) (B : Nat) (hBw : B ≤ w.heap.size) (hP : Planes B w a n ps) (hC : checkB n ps = true) (htab : Lib.TabIs Tryz.prog w "internal/strconv.uint64pow10" .u64 Lib.pow10Tab) :
    Calls Tryz.prog 7 #[setupV a n c] w fun e w' => e = .returned (.tuple #[.string ⟨(filT (ppsOf n ps)).toArray⟩, .int .i64 0]) ∧ Below w.heap.size w w' := by
  obtain ⟨⟨hn1, hn2⟩, hok⟩ := check_ppb hC
  have HCK := Lib.hid (fun (W : World) (hb : Below w.heap.size w W) => check_any a n c ps W B (Nat.le_trans hBw hb.size) (hP.below (hb.mono hBw)))
  rw [hC] at HCK
  have HP := Lib.hid hP.2
  have HOK := Lib.hid hok
  have HFL := Lib.hid (fun k (hk : k ≤ n) => ft_len hC hk)
  have HTB := Lib.hid (Lib.tabBelow_of_tabIs htab)
  have HIT := Lib.hid (fun (x : Int) (hx : -9999999999 ≤ x ∧ x ≤ 9999999999) (W : World) (hb : Below w.heap.size w W) => pitoa_any x hx W (HTB.out.on hb).here)
  have HRES := Lib.hid (show ∀ W' : World, Below w.heap.size w W' → (fun (e : Ending) (w' : World) => e = .returned (.tuple #[.string ⟨(filT (ppsOf n ps)).toArray⟩, .int .i64 0]) ∧ Below w.heap.size w w') (.returned (.tuple #[.string ⟨(ftN n ps n).toArray⟩, .int .i64 0])) W' from fun W' hb => ⟨by rw [ft_end], hb⟩)
  generalize (fun (e : Ending) (w' : World) => e = .returned (.tuple #[.string ⟨(filT (ppsOf n ps)).toArray⟩, .int .i64 0]) ∧ Below w.heap.size w w') = RES at *
  clear hP hok hC htab HTB
  have hS := HFL.out 0 (Nat.zero_le _)
  rw [ft_zero] at hS
  have HT0 := Lib.hid (ft_zero n ps)
  go_enter Tryz.func7, Tryz.ntmps7
  have hz0 : w.heap.size < (w.alloc (.cells #[.slice a n c] 24)).heap.size := by simp
  go_upto_region 1 with (fail)
  have HV := Lib.hid (heap_alloc_new w (.cells #[.slice a n c] 24))
  have HB := Lib.hid (fp_below w (.cells #[.slice a n c] 24))
  generalize World.alloc w _ = V at *
  have k0 := cell_of_row _ _ 0 _ _ _ HV.out
  go_upto_region 3 with (go_at_call 18; refine (HCK.out _ HB.out).mono ?_; rintro e w1 ⟨rfl, hb1⟩)
  have HV1 := Lib.hid ((hb1.block _ hz0).trans HV.out)
  have HB1X := HV1
  have HB1 := Lib.hid (HB.out.trans (hb1.mono HB.out.size))
  clear hb1 HV HB HCK k0 hz0
  go_upto_region 4 with (fail)
  have HI0 := Lib.hid (show PW w1.heap.size [] (w1.alloc (.cells #[.pointer none, .slice none 0 0] 59)) from Lib.fresh_isBuilder 59 5 w1)
  have HB4 := Lib.hid (fp_below w1 (.cells #[.pointer none, .slice none 0 0] 59))
  have hkw := HB1.out.size
  have hkl : w.heap.size < w1.heap.size := (Array.getElem?_eq_some_iff.1 HV1.out).1
  generalize World.alloc w1 _ = V4 at *
  have HV4 := Lib.hid ((HB4.out.block _ hkl).trans HV1.out)
  have HBw := Lib.hid (HB1.out.trans (HB4.out.mono hkw))
  have k0 := cell_of_row _ _ 0 _ _ _ HV4.out
  have HC0 := Lib.hid (HIT.out (n : Int) ⟨by omega, by omega⟩ V4 HBw.out)
  generalize Lib.itoa (n : Int) = X at *
  have hX : X.length ≤ 40000 := by rw [List.length_append, List.length_append] at hS; omega
  go_upto_region 6 with (first | (go_at_call 22; refine HC0.out.mono ?_; rintro e w5 ⟨rfl, hb5⟩; have HB5 := Lib.hid hb5; have HX5 := Lib.hid (HI0.out.below hb5); clear hb5) | (go_at_call 19; have hN := heap_alloc_new w5 (.cells #[.string ⟨#[115, 101, 116, 117, 112]⟩, .string ⟨X.toArray⟩] 9); refine (words_any (HX5.out.below (fp_below w5 _)) w5.heap.size [115, 101, 116, 117, 112] X (cell_of_row _ _ 0 _ _ _ hN) (cell_of_row _ _ 1 _ _ _ hN) ?hlx).mono ?_; rotate_left; rintro e w6 ⟨rfl, h6, hb6, hk6⟩))
  case hlx => simp only [List.length_append, List.length_cons, List.length_nil]; omega
  have HX6 := Lib.hid (show PS w1.heap.size ([115, 101, 116, 117, 112] ++ [32] ++ X) w1 V4 w6 from ⟨h6, HB4.out.trans ((HB5.out.mono HI0.out.le).trans (((fp_below w5 _).mono HX5.out.le).trans hb6)), (KB.of_below HB5.out).trans ((KB.of_below (fp_below w5 _)).trans hk6)⟩)
  clear h6 hb6 hk6 hN HX5 HB5 HC0 HI0 HB4 HBw k0 HV1
  have HW7 := Lib.hid (write_any HX6.out.1 [10] (by simp only [List.length_append, List.length_cons, List.length_nil]; omega))
  have HT1 := Lib.hid (show [115, 101, 116, 117, 112] ++ [32] ++ X ++ [10] = ftN n ps 0 from by rw [HT0.out]; rfl)
  go_upto_region 7 with (go_at_call 20; refine HW7.out.mono ?_; rintro e w7 ⟨rfl, h7⟩; have HX7 := Lib.hid ((HX6.out.wrote h7).text HT1.out); clear h7)
  clear HW7 HX6 HT0 HT1 hS hX
  go_upto_region 9 with (fail)
  have HKA := Lib.hid (((fp_below (w7.alloc (.cells #[.string ⟨#[]⟩, .string ⟨#[115, 116, 114, 105, 112, 115]⟩, .string ⟨#[116, 117, 98, 101, 115]⟩, .string ⟨#[102, 105, 108, 109]⟩] 68)) (.cells #[.string ⟨#[]⟩, .string ⟨#[120]⟩, .string ⟨#[121]⟩] 69)).block _ (by simp)).trans (heap_alloc_new w7 (.cells #[.string ⟨#[]⟩, .string ⟨#[115, 116, 114, 105, 112, 115]⟩, .string ⟨#[116, 117, 98, 101, 115]⟩, .string ⟨#[102, 105, 108, 109]⟩] 68)))
  have HVA := Lib.hid (heap_alloc_new (w7.alloc (.cells #[.string ⟨#[]⟩, .string ⟨#[115, 116, 114, 105, 112, 115]⟩, .string ⟨#[116, 117, 98, 101, 115]⟩, .string ⟨#[102, 105, 108, 109]⟩] 68)) (.cells #[.string ⟨#[]⟩, .string ⟨#[120]⟩, .string ⟨#[121]⟩] 69))
  have HX9 := Lib.hid (((HX7.out.below (fp_below w7 (.cells #[.string ⟨#[]⟩, .string ⟨#[115, 116, 114, 105, 112, 115]⟩, .string ⟨#[116, 117, 98, 101, 115]⟩, .string ⟨#[102, 105, 108, 109]⟩] 68))).below (fp_below _ (.cells #[.string ⟨#[]⟩, .string ⟨#[120]⟩, .string ⟨#[121]⟩] 69))).start)
  rw [wa_size] at HVA
  generalize World.alloc (World.alloc w7 _) _ = V9 at *
  generalize w7.heap.size = ka at *
  obtain ⟨va, hva⟩ : ∃ va, ka + 1 = va := ⟨_, rfl⟩
  rw [hva] at HVA ⊢
  clear hva HX7
  have HBc := Lib.hid (HB1.out.trans (HX9.out.2.1.mono hkw))
  have k0 := cell_of_row _ _ 0 _ _ _ ((HX9.out.2.1.block _ hkl).trans ((HB1X.out)))
  obtain ⟨kb, hkb⟩ : ∃ kb, w1.heap.size = kb := ⟨_, rfl⟩
  rw [hkb] at hkw HX9 ⊢
  clear hkl hkb HB1X HV4
  go_upto_region 10 with (fail)
  clear k0
  go_loopw [33] (fun s33 wr => ∃ i : Nat, i ≤ n ∧ s33 = .int .i64 (i : Int) ∧ Hid (PS kb (ftN n ps i) w1 V9 wr)) (fun s33 _ => n - (intOf s33).toNat)
  case atStart => exact ⟨0, Nat.zero_le _, rfl, HX9⟩
  case round =>
    clear HX9 HBc
    obtain ⟨i, hi, rfl, HX⟩ := hrel
    have HB0 := Lib.hid (HB1.out.trans (HX.out.2.1.mono hkw))
    have hw2 := HB0.out.size
    by_cases hlt : i < n
    · have hlt' : (i : Int) < (n : Int) := by omega
      rcases HP.out with hd | ⟨b, off, rfl, hbs, hcell⟩
      · omega
      obtain ⟨hat, hm⟩ := hcell i hlt
      have hat1 := hat.below HB0.out (Nat.lt_of_lt_of_le hbs hBw)
      have HM := Lib.hid (hm.up hBw)
      obtain ⟨c0, c1, c2, c3, c4, c5, c6, c7, c8, c9, c10, c11, c12, c13, c14⟩ := hat1
      have hFL := HFL.out i (by omega)
      have hll := HFL.out (i + 1) hlt
      rw [ft_step] at hll
      have HSt := Lib.hid (ft_step n ps i)
      have HQ := Lib.hid (HOK.out i hlt)
      clear hat hm hcell
      generalize ftN n ps i = F at *
      generalize hq : ps i = q at *
      clear hq
      go_upto_region 12 with (fail)
      clear c0 c1 c2 c3 c4 c5 c6 c7 c8 c9 c10 c11 c12 c13 c14
      have hN := heap_alloc_new wr (.cells #[.int .i64 q.kind, .int .i64 q.view, .int .i64 q.z, .int .i64 q.first, .int .i64 q.pitch, .int .i64 q.strips, .int .i64 q.spill, .int .i64 q.olo, .int .i64 q.ohi, .int .i64 q.clo, .int .i64 q.chi, .int .i64 q.jitter, .int .i64 q.least, .slice q.da q.dn q.dc, .slice q.ea q.en q.ec] 42)
      have HX10 := Lib.hid (HX.out.below (fp_below wr (.cells #[.int .i64 q.kind, .int .i64 q.view, .int .i64 q.z, .int .i64 q.first, .int .i64 q.pitch, .int .i64 q.strips, .int .i64 q.spill, .int .i64 q.olo, .int .i64 q.ohi, .int .i64 q.clo, .int .i64 q.chi, .int .i64 q.jitter, .int .i64 q.least, .slice q.da q.dn q.dc, .slice q.ea q.en q.ec] 42)))
      have HB10 := Lib.hid (HB0.out.trans ((fp_below wr (.cells #[.int .i64 q.kind, .int .i64 q.view, .int .i64 q.z, .int .i64 q.first, .int .i64 q.pitch, .int .i64 q.strips, .int .i64 q.spill, .int .i64 q.olo, .int .i64 q.ohi, .int .i64 q.clo, .int .i64 q.chi, .int .i64 q.jitter, .int .i64 q.least, .slice q.da q.dn q.dc, .slice q.ea q.en q.ec] 42)).mono hw2))
      clear HX HB0
      generalize World.alloc wr _ = V10 at *
      generalize wr.heap.size = pb at *
      have HPB := Lib.hid hN
      have hkA := HX10.out.2.2.2 _ _ _ _ HKA.out (by decide) (by decide)
      have hvA := HX10.out.2.2.2 _ _ _ _ HVA.out (by decide) (by decide)
      have HXS := Lib.hid HX10.out.start
      have HK9 := Lib.hid HX10.out.2.2
      have hpz : pb < V10.heap.size := (Array.getElem?_eq_some_iff.1 hN).1
      have hkz : ka < V10.heap.size := (Array.getElem?_eq_some_iff.1 hkA).1
      have hvz : va < V10.heap.size := (Array.getElem?_eq_some_iff.1 hvA).1
      obtain ⟨kj, hk1, hk2, hk3⟩ := pkind_at HQ.out.kind
      obtain ⟨vj, hv1, hv2, hv3⟩ := pview_at HQ.out.view
      have x0 : V10.cell? ⟨pb, 0, none⟩ = some (.int .i64 (kj : Int)) := (cell_of_row _ _ 0 _ _ _ hN).trans (by rw [← hk1]; rfl)
      have x1 : V10.cell? ⟨pb, 1, none⟩ = some (.int .i64 (vj : Int)) := (cell_of_row _ _ 1 _ _ _ hN).trans (by rw [← hv1]; rfl)
      have y0 := (cell_of_row _ _ kj _ _ _ hkA).trans hk3
      have y1 := (cell_of_row _ _ vj _ _ _ hvA).trans hv3
      have HL1 := Lib.hid (ln_one F q)
      have hkl : (kindT q.kind).length ≤ 6 := by unfold kindT; split; decide; split <;> decide
      have hvl : (viewT q.view).length ≤ 6 := by unfold viewT; split <;> decide
      clear hk1 hk3 hv1 hv3 hkA hvA hN HX10
      have hkI : (kj : Int) < 4 := by omega
      have hvI : (vj : Int) < 3 := by omega
      have hwj : IntKind.i64.wrap (kj : Int) = (kj : Int) := IntWalk.i64_in _ (by omega)
      have hwj2 : IntKind.i64.wrap (vj : Int) = (vj : Int) := IntWalk.i64_in _ (by omega)
      generalize kindT q.kind = KT at *
      generalize viewT q.view = VT at *
      refine wp_region_any (by kernel_rfl) ?_
      change wpAny _ _ _ _ _ _ _ (World.drew V10)
      have hS0 : Below V10.heap.size V10 V10.drew := (Below.refl _ _).drew
      generalize World.drew V10 = w6 at *
      refine any_of_tail 10 10 (fun w' => Below V10.heap.size V10 w') (by kernel_rfl) hS0 (fun hS => ?_)
      refine headH_take (i := 0) (v := ?_) rfl (by kernel_rfl) (fun _ _ _ h => h) (Or.inl ⟨by rfl, ?_⟩) (by assumption) ?_; rotate_left; (· intro w' hSw; (try dsimp only at hSw); have z0 := ((bcell hSw).1 _ _ hpz).trans x0; have z1 := ((bcell hSw).1 _ _ hpz).trans x1; have z2 := ((bcell hSw).1 _ _ hkz).trans y0; have z3 := ((bcell hSw).1 _ _ hvz).trans y1; clear hSw; (try simp only [List.getElem_toArray, List.getElem_cons_zero, List.getElem_cons_succ]); go_simp; (try with_reducible rfl)); (try simp only [List.getElem_toArray, List.getElem_cons_zero, List.getElem_cons_succ]); (try dsimp only [Act.put]); (try simp only [List.setIfInBounds_toArray, List.set_cons_zero, List.set_cons_succ])
      refine headH_take (i := 1) (v := ?_) rfl (by kernel_rfl) (fun _ _ _ h => h) (Or.inl ⟨by rfl, ?_⟩) (by assumption) ?_; rotate_left; (· intro w' hSw; (try dsimp only at hSw); have z0 := ((bcell hSw).1 _ _ hpz).trans x0; have z1 := ((bcell hSw).1 _ _ hpz).trans x1; have z2 := ((bcell hSw).1 _ _ hkz).trans y0; have z3 := ((bcell hSw).1 _ _ hvz).trans y1; clear hSw; (try simp only [List.getElem_toArray, List.getElem_cons_zero, List.getElem_cons_succ]); go_simp; (try with_reducible rfl)); (try simp only [List.getElem_toArray, List.getElem_cons_zero, List.getElem_cons_succ]); (try dsimp only [Act.put]); (try simp only [List.setIfInBounds_toArray, List.set_cons_zero, List.set_cons_succ])
      refine headH_take (i := 2) (v := ?_) rfl (by kernel_rfl) (fun _ _ _ h => h) (Or.inl ⟨by rfl, ?_⟩) (by assumption) ?_; rotate_left; (· intro w' hSw; (try dsimp only at hSw); have z0 := ((bcell hSw).1 _ _ hpz).trans x0; have z1 := ((bcell hSw).1 _ _ hpz).trans x1; have z2 := ((bcell hSw).1 _ _ hkz).trans y0; have z3 := ((bcell hSw).1 _ _ hvz).trans y1; clear hSw; (try simp only [List.getElem_toArray, List.getElem_cons_zero, List.getElem_cons_succ]); go_simp; (try with_reducible rfl)); (try simp only [List.getElem_toArray, List.getElem_cons_zero, List.getElem_cons_succ]); (try dsimp only [Act.put]); (try simp only [List.setIfInBounds_toArray, List.set_cons_zero, List.set_cons_succ])
      refine headH_take (i := 3) (v := ?_) rfl (by kernel_rfl) (fun _ _ _ h => h) (Or.inl ⟨by rfl, ?_⟩) (by assumption) ?_; rotate_left; (· intro w' hSw; (try dsimp only at hSw); have z0 := ((bcell hSw).1 _ _ hpz).trans x0; have z1 := ((bcell hSw).1 _ _ hpz).trans x1; have z2 := ((bcell hSw).1 _ _ hkz).trans y0; have z3 := ((bcell hSw).1 _ _ hvz).trans y1; clear hSw; (try simp only [List.getElem_toArray, List.getElem_cons_zero, List.getElem_cons_succ]); go_simp; (try with_reducible rfl)); (try simp only [List.getElem_toArray, List.getElem_cons_zero, List.getElem_cons_succ]); (try dsimp only [Act.put]); (try simp only [List.setIfInBounds_toArray, List.set_cons_zero, List.set_cons_succ])
      refine headH_take (i := 4) (v := ?_) rfl (by kernel_rfl) (fun _ _ _ h => h) (Or.inl ⟨by rfl, ?_⟩) (by assumption) ?_; rotate_left; (· intro w' hSw; (try dsimp only at hSw); have z0 := ((bcell hSw).1 _ _ hpz).trans x0; have z1 := ((bcell hSw).1 _ _ hpz).trans x1; have z2 := ((bcell hSw).1 _ _ hkz).trans y0; have z3 := ((bcell hSw).1 _ _ hvz).trans y1; clear hSw; (try simp only [List.getElem_toArray, List.getElem_cons_zero, List.getElem_cons_succ]); go_simp; (try with_reducible rfl)); (try simp only [List.getElem_toArray, List.getElem_cons_zero, List.getElem_cons_succ]); (try dsimp only [Act.put]); (try simp only [List.setIfInBounds_toArray, List.set_cons_zero, List.set_cons_succ])
      refine headH_take (i := 5) (v := ?_) rfl (by kernel_rfl) (fun _ _ _ h => h) (Or.inl ⟨by rfl, ?_⟩) (by assumption) ?_; rotate_left; (· intro w' hSw; (try dsimp only at hSw); have z0 := ((bcell hSw).1 _ _ hpz).trans x0; have z1 := ((bcell hSw).1 _ _ hpz).trans x1; have z2 := ((bcell hSw).1 _ _ hkz).trans y0; have z3 := ((bcell hSw).1 _ _ hvz).trans y1; clear hSw; (try simp only [List.getElem_toArray, List.getElem_cons_zero, List.getElem_cons_succ]); go_simp; (try with_reducible rfl)); (try simp only [List.getElem_toArray, List.getElem_cons_zero, List.getElem_cons_succ]); (try dsimp only [Act.put]); (try simp only [List.setIfInBounds_toArray, List.set_cons_zero, List.set_cons_succ])
      refine headH_take (i := 6) (v := ?_) rfl (by kernel_rfl) (fun _ _ _ h => h) (Or.inl ⟨by rfl, ?_⟩) (by assumption) ?_; rotate_left; (· intro w' hSw; (try dsimp only at hSw); have z0 := ((bcell hSw).1 _ _ hpz).trans x0; have z1 := ((bcell hSw).1 _ _ hpz).trans x1; have z2 := ((bcell hSw).1 _ _ hkz).trans y0; have z3 := ((bcell hSw).1 _ _ hvz).trans y1; clear hSw; (try simp only [List.getElem_toArray, List.getElem_cons_zero, List.getElem_cons_succ]); go_simp; (try with_reducible rfl)); (try simp only [List.getElem_toArray, List.getElem_cons_zero, List.getElem_cons_succ]); (try dsimp only [Act.put]); (try simp only [List.setIfInBounds_toArray, List.set_cons_zero, List.set_cons_succ])
      refine headH_take (i := 7) (v := ?_) rfl (by kernel_rfl) (fun _ _ _ h => h) (Or.inl ⟨by rfl, ?_⟩) (by assumption) ?_; rotate_left; (· intro w' hSw; (try dsimp only at hSw); have z0 := ((bcell hSw).1 _ _ hpz).trans x0; have z1 := ((bcell hSw).1 _ _ hpz).trans x1; have z2 := ((bcell hSw).1 _ _ hkz).trans y0; have z3 := ((bcell hSw).1 _ _ hvz).trans y1; clear hSw; (try simp only [List.getElem_toArray, List.getElem_cons_zero, List.getElem_cons_succ]); go_simp; (try with_reducible rfl)); (try simp only [List.getElem_toArray, List.getElem_cons_zero, List.getElem_cons_succ]); (try dsimp only [Act.put]); (try simp only [List.setIfInBounds_toArray, List.set_cons_zero, List.set_cons_succ])
      refine headH_take (i := 8) (v := ?_) rfl (by kernel_rfl) (fun _ _ _ h => h) (Or.inl ⟨by rfl, ?_⟩) (by assumption) ?_; rotate_left; (· intro w' hSw; (try dsimp only at hSw); have z0 := ((bcell hSw).1 _ _ hpz).trans x0; have z1 := ((bcell hSw).1 _ _ hpz).trans x1; have z2 := ((bcell hSw).1 _ _ hkz).trans y0; have z3 := ((bcell hSw).1 _ _ hvz).trans y1; clear hSw; (try simp only [List.getElem_toArray, List.getElem_cons_zero, List.getElem_cons_succ]); go_simp; (try with_reducible rfl)); (try simp only [List.getElem_toArray, List.getElem_cons_zero, List.getElem_cons_succ]); (try dsimp only [Act.put]); (try simp only [List.setIfInBounds_toArray, List.set_cons_zero, List.set_cons_succ])
      clear x0 x1 y0 y1 hkI hvI hwj hwj2 hk2 hv2 hkz hvz
      refine headH_all (rs := [9]) (by kernel_rfl) (by simp) (by kernel_rfl) ?_; intro i0 hi0; simp only [List.mem_cons, List.not_mem_nil, or_false] at hi0
      subst hi0
      (refine headH_op rfl (fun K hK => ?_); (try simp only [List.getElem_toArray, List.getElem_cons_zero, List.getElem_cons_succ]); go_simp)
      have HX6 := Lib.hid (HXS.out.below hS0)
      (refine hK.out _ _ (hS0.trans ((fp_below w6 _).mono hS0.size)) (fun hS => ?_); clear hK K; (try simp only [List.getElem_toArray, List.getElem_cons_zero, List.getElem_cons_succ]); (try dsimp only [Act.put]); (try simp only [List.setIfInBounds_toArray, List.set_cons_zero, List.set_cons_succ]))
      change tailL _ _ _ _ _ _ _ _
      refine ⟨by kernel_rfl, ?_⟩
      simp only [List.drop_succ_cons, List.drop_zero]
      go_upto_region 13 with (go_at_call 19; have hN6 := heap_alloc_new w6 (.cells #[.string ⟨KT.toArray⟩, .string ⟨VT.toArray⟩] 9); refine (words_any (HX6.out.1.below (fp_below w6 _)) w6.heap.size KT VT (cell_of_row _ _ 0 _ _ _ hN6) (cell_of_row _ _ 1 _ _ _ hN6) ?hlw).mono ?_; rotate_left; rintro e w8 ⟨rfl, h8⟩)
      case hlw => simp only [List.length_append, List.length_cons, List.length_nil]; omega
      have HX8 := Lib.hid (((HX6.out.below (fp_below w6 _)).wrote h8).text HL1.out.symm)
      clear h8 hN6 HX6 HXS HL1 hkl hvl
      have hpl : ∀ j, w8.cell? ⟨pb, j, none⟩ = (#[.int .i64 q.kind, .int .i64 q.view, .int .i64 q.z, .int .i64 q.first, .int .i64 q.pitch, .int .i64 q.strips, .int .i64 q.spill, .int .i64 q.olo, .int .i64 q.ohi, .int .i64 q.clo, .int .i64 q.chi, .int .i64 q.jitter, .int .i64 q.least, .slice q.da q.dn q.dc, .slice q.ea q.en q.ec] : Array Value)[j]? := fun j => cell_of_row _ _ j _ _ _ (HX8.out.2.2.2 _ _ _ _ HPB.out (by decide) (by decide))
      go_upto_region 14 with (fail)
      clear hpl
      have HNB := Lib.hid (heap_alloc_new w8 (.cells #[.int .i64 q.z, .int .i64 q.first, .int .i64 q.pitch, .int .i64 q.strips, .int .i64 q.spill, .int .i64 q.olo, .int .i64 q.ohi, .int .i64 q.clo, .int .i64 q.chi, .int .i64 q.jitter, .int .i64 q.least] 3))
      have HX13 := Lib.hid (HX8.out.below (fp_below w8 (.cells #[.int .i64 q.z, .int .i64 q.first, .int .i64 q.pitch, .int .i64 q.strips, .int .i64 q.spill, .int .i64 q.olo, .int .i64 q.ohi, .int .i64 q.clo, .int .i64 q.chi, .int .i64 q.jitter, .int .i64 q.least] 3)))
      clear HX8
      generalize World.alloc w8 _ = V13 at *
      generalize w8.heap.size = nb at *
      have HPB13 := Lib.hid (HX13.out.2.2.2 _ _ _ _ HPB.out (by decide) (by decide))
      have HK13 := Lib.hid HX13.out.2.2
      have HXL := Lib.hid HX13.out.start
      have HBp := Lib.hid (fun (T : Tx) (W : World) (h : PS kb T w1 V13 W) => HB1.out.trans (h.2.1.mono hkw))
      clear HX13 HPB hpz
      go_loopw [76] (fun s76 wr => ∃ j : Nat, j ≤ 11 ∧ s76 = .int .i64 (j : Int) ∧ Hid (PS kb (lnN F q (1 + j)) w1 V13 wr)) (fun s76 _ => 11 - (intOf s76).toNat)
      case atStart => exact ⟨0, by omega, rfl, HXL⟩
      case round =>
        clear HXL
        obtain ⟨j, hj, rfl, HX⟩ := hrel
        by_cases hlj : j < 11
        · have hlj' : (j : Int) < 11 := by omega
          have d0 := ns_at (HX.out.2.2.2 _ _ _ _ HNB.out (by decide) (by decide)) hlj
          have HST := Lib.hid (ln_step (F := F) (p := q) (m := 1 + j) (by rw [ws_len]; omega))
          rw [ws_n hlj] at HST
          have hll1 := ln_len HQ.out hFL (1 + j)
          have hx : -1000000000 ≤ (nsOf q).getD j 0 ∧ (nsOf q).getD j 0 ≤ 1000000000 := by
            rw [List.getD_eq_getElem?_getD, List.getElem?_eq_getElem (show j < (nsOf q).length from hlj)]
            exact HQ.out.ns _ (List.getElem_mem _)
          have hil := (itoa_len (n := (nsOf q).getD j 0) ⟨by omega, by omega⟩).2
          have HNX := Lib.hid (show lnN F q (1 + (j + 1)) = lnN F q (1 + j) ++ ([32] ++ Lib.itoa ((nsOf q).getD j 0)) from by rw [← HST.out]; congr 1)
          (have HC := Lib.hid (HIT.out ((nsOf q).getD j 0) ⟨by omega, by omega⟩ wr (HBp.out _ _ HX.out)); generalize (nsOf q).getD j 0 = xv at *; generalize Lib.itoa xv = XX at *; obtain ⟨S, s1, HS⟩ : ∃ S : Tx, (∀ w : World, (Op.stringOp .add ⟨#[32]⟩ ⟨XX.toArray⟩).run Tryz.prog w = .ok (.string ⟨S.toArray⟩) w) ∧ Hid (S = [32] ++ XX) := ⟨[32] ++ XX, add_to [32] XX (by simp only [List.length_append, List.length_cons, List.length_nil]; omega), Lib.hid rfl⟩; have HWS := Lib.hid (fun (W : World) (hb : Below wr.heap.size wr W) => write_any (HX.out.1.below hb) S (by rw [HS.out]; simp only [List.length_append, List.length_cons, List.length_nil]; omega)); generalize lnN F q (1 + j) = TT at *; go_wp2_with (first | (go_at_call 22; refine HC.out.mono ?_; rintro e wa ⟨rfl, hba⟩; have HBA := Lib.hid hba; have HWa := Lib.hid (HWS.out _ hba); clear hba) | (go_at_call 20; refine HWa.out.mono ?_; rintro e wb ⟨rfl, hwb⟩)))
          go_roundw
          case rel => exact ⟨j + 1, by omega, by go_num, Lib.hid (((HX.out.below HBA.out).wrote hwb).text (by rw [HNX.out, HS.out]))⟩
          case measure => simp [intOf]; omega
        · obtain rfl : j = 11 := by omega
          have hlj' : ¬ (11 : Int) < 11 := by omega
          clear HNB
          rename World => w14
          have k13 := cell_of_row _ _ 13 _ _ _ (HX.out.2.2.2 _ _ _ _ HPB13.out (by decide) (by decide))
          go_upto_if 88 with (fail)
          clear hj hlj hlj'
          go_cut [13, 33] from 33 to 133 (fun s13 s33 wx => s33 = .int .i64 (i : Int) ∧ Hid (PS kb (lnN F q (12 + drl q)) w1 V13 wx))
          case first =>
            by_cases hd0 : q.dn = 0
            · have hd1 : ¬ (0 : Int) < (q.dn : Int) := by omega
              have HX2 := Lib.hid (HX.out.text (show lnN F q (1 + 11) = lnN F q (12 + drl q) from by unfold drl; rw [if_pos hd0]))
              go_wp2
              go_meet
              exact ⟨rfl, HX2⟩
            · have hd1 : (0 : Int) < (q.dn : Int) := by omega
              have hdn := HQ.out.dn
              rcases HM.out.2.2.1 with h | ⟨db, dof, hda, hdB, hdc⟩
              · omega
              rw [hda] at k13 HPB13 ⊢
              have HDC := Lib.hid hdc
              have HST := Lib.hid (ln_step (F := F) (p := q) (m := 12) (by rw [ws_len]; unfold drl; rw [if_neg hd0]; omega))
              rw [ws_d0 (by omega)] at HST
              have hll1 := ln_len HQ.out hFL (1 + 11)
              have HWD := Lib.hid (write_any HX.out.1 ([32] ++ driftT) (by rw [List.length_append]; have : ([32] ++ driftT).length = 6 := rfl; omega))
              have HST2 := Lib.hid (show lnN F q (1 + 11) ++ ([32] ++ driftT) = lnN F q (13 + 0) from HST.out.symm)
              clear hda hdc
              go_upto_region 20 with (go_at_call 20; refine HWD.out.mono ?_; rintro e wb ⟨rfl, hwb⟩; have HX2 := Lib.hid ((HX.out.wrote hwb).text HST2.out); clear hwb)
              clear HX HWD HST HST2 k13 hll1
              have k13 := cell_of_row _ _ 13 _ _ _ (HX2.out.2.2.2 _ _ _ _ HPB13.out (by decide) (by decide))
              go_upto_region 21 with (fail)
              clear k13
              go_loopw [93] (fun s93 wr => ∃ j : Nat, j ≤ q.dn ∧ s93 = .int .i64 (j : Int) ∧ Hid (PS kb (lnN F q (13 + j)) w1 V13 wr)) (fun s93 _ => q.dn - (intOf s93).toNat)
              case atStart => exact ⟨0, by omega, rfl, HX2⟩
              case round =>
                clear HX2
                obtain ⟨j, hj, rfl, HX⟩ := hrel
                by_cases hlj : j < q.dn
                · have hlj' : (j : Int) < (q.dn : Int) := by omega
                  obtain ⟨e0, e1, e2⟩ := HDC.out j hlj
                  have HBr := Lib.hid (HBp.out _ _ HX.out)
                  have d0 := ((bcell HBr.out).1 _ _ hdB).trans e0
                  have d1 := ((bcell HBr.out).1 _ _ hdB).trans e1
                  have d2 := ((bcell HBr.out).1 _ _ hdB).trans e2
                  clear e0 e1 e2
                  obtain ⟨⟨h1, h2⟩, ⟨h3, h4⟩, ⟨h5, h6⟩⟩ := HQ.out.ds j hlj
                  have HST := Lib.hid (ln_step (F := F) (p := q) (m := 13 + j) (by rw [ws_len]; unfold drl; rw [if_neg hd0]; omega))
                  rw [ws_d hlj] at HST
                  have HDR := Lib.hid (show drT (toDR (q.ds j)) = Lib.itoa (q.ds j).time ++ ([58] ++ Lib.itoa (q.ds j).lo ++ ([58] ++ Lib.itoa (q.ds j).hi)) from by simp [drT, toDR, jn])
                  have HNX := Lib.hid (show lnN F q (13 + (j + 1)) = lnN F q (13 + j) ++ ([32] ++ drT (toDR (q.ds j))) from by rw [← HST.out]; congr 1)
                  have hll1 := ln_len HQ.out hFL (13 + j)
                  have hdl := drT_len HQ.out hlj
                  rw [HDR.out] at HNX hdl
                  clear HST HDR
                  generalize q.ds j = dv at *
                  obtain ⟨tm, lo, hi'⟩ := dv
                  dsimp only at h1 h2 h3 h4 h5 h6 d0 d1 d2 HNX hdl
                  go_upto_region 23 with (fail)
                  have hcn := heap_alloc_new wr (.cells #[.int .i64 tm, .int .i64 lo, .int .i64 hi'] 71)
                  have HXn := Lib.hid (HX.out.below (fp_below wr (.cells #[.int .i64 tm, .int .i64 lo, .int .i64 hi'] 71)))
                  have hz := (Array.getElem?_eq_some_iff.1 hcn).1
                  clear d0 d1 d2 HBr HX
                  generalize World.alloc wr _ = V23 at *
                  have g0 := cell_of_row _ _ 0 _ _ _ hcn
                  have g1 := cell_of_row _ _ 1 _ _ _ hcn
                  have g2 := cell_of_row _ _ 2 _ _ _ hcn
                  clear hcn
                  generalize wr.heap.size = cb at *
                  have HBn := Lib.hid (HBp.out _ _ HXn.out)
                  have HD1 := Lib.hid (fun (W : World) (hW : Below V23.heap.size V23 W) => HIT.out tm ⟨by omega, by omega⟩ W (HBn.out.trans (hW.mono HBn.out.size)))
                  have HD2 := Lib.hid (fun (W : World) (hW : Below V23.heap.size V23 W) => HIT.out lo ⟨by omega, by omega⟩ W (HBn.out.trans (hW.mono HBn.out.size)))
                  have HD3 := Lib.hid (fun (W : World) (hW : Below V23.heap.size V23 W) => HIT.out hi' ⟨by omega, by omega⟩ W (HBn.out.trans (hW.mono HBn.out.size)))
                  generalize Lib.itoa tm = X1 at *
                  generalize Lib.itoa lo = X2 at *
                  generalize Lib.itoa hi' = X3 at *
                  obtain ⟨T2, T3, T4, T5, T6, s2, s3, s4, s5, s6, HT6⟩ := five_adds X1 X2 X3 (by rw [List.length_append]; simp only [List.length_cons, List.length_nil]; omega)
                  have HWS := Lib.hid (fun (W : World) (hb : Below V23.heap.size V23 W) => write_any (HXn.out.1.below hb) T6 (by rw [HT6.out, List.length_append, List.length_append]; simp only [List.length_cons, List.length_nil]; omega))
                  generalize lnN F q (13 + j) = TT at *
                  (refine wp_region_calm_tail (V23.heap.size) 16 (by kernel_rfl) (by kernel_rfl) ?_; simp only [List.take_succ_cons, List.take_zero, List.drop_succ_cons, List.drop_zero]; (repeat (first | go_big_quiet_step ((go_at_call 22; (first | with_reducible exact Calls.calm_of (Nat.le_refl _) (HD1.out _ (Calm.below _)) | with_reducible exact Calls.calm_of (Nat.le_refl _) (HD2.out _ (Calm.below _)) | with_reducible exact Calls.calm_of (Nat.le_refl _) (HD3.out _ (Calm.below _))))) | quiet_step ((go_at_call 22; (first | with_reducible exact Calls.calm_of (Nat.le_refl _) (HD1.out _ (Calm.below _)) | with_reducible exact Calls.calm_of (Nat.le_refl _) (HD2.out _ (Calm.below _)) | with_reducible exact Calls.calm_of (Nat.le_refl _) (HD3.out _ (Calm.below _))))))); refine wpQuiet_nil ?_; intro _ hw'; obtain ⟨xq, hw''⟩ := hw'; subst hw'')
                  have HXq := Lib.hid (HXn.out.below (Calm.below xq))
                  have HWq := Lib.hid (HWS.out _ (Calm.below xq))
                  generalize Calm.val xq = wq at *
                  clear s2 s3 s4 s5 s6 HD1 HD2 HD3 g0 g1 g2 HBn HXn HWS
                  go_wp2_with (go_at_call 20; refine HWq.out.mono ?_; rintro e wb ⟨rfl, hwb⟩)
                  go_roundw
                  case rel => exact ⟨j + 1, by omega, by go_num, Lib.hid ((HXq.out.wrote hwb).text (by rw [HNX.out, HT6.out]))⟩
                  case measure => simp [intOf]; omega
                · obtain rfl : j = q.dn := by omega
                  have hlj' : ¬ (q.dn : Int) < (q.dn : Int) := by omega
                  have HX2 := Lib.hid (HX.out.text (show lnN F q (13 + q.dn) = lnN F q (12 + drl q) from by unfold drl; rw [if_neg hd0]; congr 1; omega))
                  go_wp2
                  go_meet
                  exact ⟨rfl, HX2⟩
          case rest =>
            clear HX k13
            obtain ⟨rfl, HXC⟩ := hcut
            have k14 := cell_of_row _ _ 14 _ _ _ (HXC.out.2.2.2 _ _ _ _ HPB13.out (by decide) (by decide))
            go_upto_if 118 with (fail)
            go_cut [15, 33] from 33 to 133 (fun s15 s33 wx => s33 = .int .i64 (i : Int) ∧ Hid (PS kb (lnN F q (12 + drl q + del q)) w1 V13 wx))
            case first =>
              by_cases hd0 : q.en = 0
              · have hd1 : ¬ (0 : Int) < (q.en : Int) := by omega
                have HX2 := Lib.hid (HXC.out.text (show lnN F q (12 + drl q) = lnN F q (12 + drl q + del q) from by unfold del; rw [if_pos hd0, Nat.add_zero]))
                go_wp2
                go_meet
                exact ⟨rfl, HX2⟩
              · have hd1 : (0 : Int) < (q.en : Int) := by omega
                have hen := HQ.out.en
                rcases HM.out.2.2.2 with h | ⟨eb, eof, hea, heB, hec⟩
                · omega
                rw [hea] at k14 HPB13 ⊢
                have HEC := Lib.hid hec
                have HST := Lib.hid (ln_step (F := F) (p := q) (m := 12 + drl q) (by rw [ws_len]; unfold del; rw [if_neg hd0]; omega))
                rw [ws_e0 (by omega)] at HST
                have hll1 := ln_len HQ.out hFL (12 + drl q)
                have HWD := Lib.hid (write_any HXC.out.1 ([32] ++ deadT) (by rw [List.length_append]; have : ([32] ++ deadT).length = 5 := rfl; omega))
                have HST2 := Lib.hid (show lnN F q (12 + drl q) ++ ([32] ++ deadT) = lnN F q (12 + drl q + 1 + 0) from HST.out.symm)
                clear hea hec
                go_upto_region 27 with (go_at_call 20; refine HWD.out.mono ?_; rintro e wb ⟨rfl, hwb⟩; have HX2 := Lib.hid ((HXC.out.wrote hwb).text HST2.out); clear hwb)
                clear HXC HWD HST HST2 k14 hll1
                have k14 := cell_of_row _ _ 14 _ _ _ (HX2.out.2.2.2 _ _ _ _ HPB13.out (by decide) (by decide))
                go_upto_region 28 with (fail)
                clear k14
                go_loopw [123] (fun s123 wr => ∃ j : Nat, j ≤ q.en ∧ s123 = .int .i64 (j : Int) ∧ Hid (PS kb (lnN F q (12 + drl q + 1 + j)) w1 V13 wr)) (fun s123 _ => q.en - (intOf s123).toNat)
                case atStart => exact ⟨0, by omega, rfl, HX2⟩
                case round =>
                  clear HX2
                  obtain ⟨j, hj, rfl, HX⟩ := hrel
                  by_cases hlj : j < q.en
                  · have hlj' : (j : Int) < (q.en : Int) := by omega
                    have e0 := HEC.out j hlj
                    have HBr := Lib.hid (HBp.out _ _ HX.out)
                    have d0 := ((bcell HBr.out).1 _ _ heB).trans e0
                    clear e0
                    have hx := HQ.out.es j hlj
                    have HST := Lib.hid (ln_step (F := F) (p := q) (m := 12 + drl q + 1 + j) (by rw [ws_len]; unfold del; rw [if_neg hd0]; omega))
                    rw [ws_e hlj] at HST
                    have HNX := Lib.hid (show lnN F q (12 + drl q + 1 + (j + 1)) = lnN F q (12 + drl q + 1 + j) ++ ([32] ++ Lib.itoa (q.es j)) from by rw [← HST.out]; congr 1)
                    have hll1 := ln_len HQ.out hFL (12 + drl q + 1 + j)
                    have hil := (itoa_len (n := q.es j) ⟨by omega, by omega⟩).2
                    clear HST
                    (have HC := Lib.hid (HIT.out (q.es j) ⟨by omega, by omega⟩ wr (HBp.out _ _ HX.out)); generalize q.es j = xv at *; generalize Lib.itoa xv = XX at *; obtain ⟨S, s1, HS⟩ : ∃ S : Tx, (∀ w : World, (Op.stringOp .add ⟨#[32]⟩ ⟨XX.toArray⟩).run Tryz.prog w = .ok (.string ⟨S.toArray⟩) w) ∧ Hid (S = [32] ++ XX) := ⟨[32] ++ XX, add_to [32] XX (by simp only [List.length_append, List.length_cons, List.length_nil]; omega), Lib.hid rfl⟩; have HWS := Lib.hid (fun (W : World) (hb : Below wr.heap.size wr W) => write_any (HX.out.1.below hb) S (by rw [HS.out]; simp only [List.length_append, List.length_cons, List.length_nil]; omega)); generalize lnN F q (12 + drl q + 1 + j) = TT at *; go_wp2_with (first | (go_at_call 22; refine HC.out.mono ?_; rintro e wa ⟨rfl, hba⟩; have HBA := Lib.hid hba; have HWa := Lib.hid (HWS.out _ hba); clear hba) | (go_at_call 20; refine HWa.out.mono ?_; rintro e wb ⟨rfl, hwb⟩)))
                    go_roundw
                    case rel => exact ⟨j + 1, by omega, by go_num, Lib.hid (((HX.out.below HBA.out).wrote hwb).text (by rw [HNX.out, HS.out]))⟩
                    case measure => simp [intOf]; omega
                  · obtain rfl : j = q.en := by omega
                    have hlj' : ¬ (q.en : Int) < (q.en : Int) := by omega
                    have HX2 := Lib.hid (HX.out.text (show lnN F q (12 + drl q + 1 + q.en) = lnN F q (12 + drl q + del q) from by unfold del; rw [if_neg hd0]; congr 1; omega))
                    go_wp2
                    go_meet
                    exact ⟨rfl, HX2⟩
            case rest =>
              clear HXC k14
              obtain ⟨rfl, HXC⟩ := hcut
              have HE := Lib.hid (show lnN F q (12 + drl q + del q) ++ [10] = ftN n ps (i + 1) from by rw [HSt.out]; unfold lnN; rw [tx_end])
              have HWE := Lib.hid (write_any HXC.out.1 [10] (by rw [HE.out, HSt.out]; omega))
              generalize lnN F q (12 + drl q + del q) = TT at *
              go_wp2_with (go_at_call 20; refine HWE.out.mono ?_; rintro e wb ⟨rfl, hwb⟩)
              go_roundw
              case rel => exact ⟨i + 1, hlt, by go_num, Lib.hid (((HXC.out.wrote hwb).text HE.out).since (HK9.out.trans HK13.out))⟩
              case measure => simp [intOf]; omega
    · obtain rfl : i = n := by omega
      have hlt' : ¬ (i : Int) < (i : Int) := by omega
      have hzz := HX.out.1.le
      go_wp2_with (go_at_call 23; refine (Tryz.Builder_String_any kb kb (ftN i ps i) wr HX.out.1 hzz).mono ?_; rintro e w9 ⟨rfl, hb9⟩)
      exact HRES.out _ (HB0.out.trans (hb9.mono hkw))
set_option maxRecDepth 100000 in
set_option maxHeartbeats 1000000 in
theorem plPrint_bad (a : Option Addr) (n c : Nat) (ps : Nat → PR) (w : World) (B : Nat) (hBw : B ≤ w.heap.size) (hP : Planes B w a n ps) (hC : checkB n ps = false) :
    Calls Tryz.prog 7 #[setupV a n c] w fun e w' => e = .returned (.tuple #[.string ⟨#[]⟩, .int .i64 2]) ∧ Below w.heap.size w w' := by
  have HCK := Lib.hid (fun (W : World) (hb : Below w.heap.size w W) => check_any a n c ps W B (Nat.le_trans hBw hb.size) (hP.below (hb.mono hBw)))
  rw [hC] at HCK
  clear hP hC
  have HRES := Lib.hid (show ∀ W' : World, Below w.heap.size w W' → (fun (e : Ending) (w' : World) => e = .returned (.tuple #[.string ⟨#[]⟩, .int .i64 2]) ∧ Below w.heap.size w w') (.returned (.tuple #[.string ⟨#[]⟩, .int .i64 2])) W' from fun W' hb => ⟨rfl, hb⟩)
  generalize (fun (e : Ending) (w' : World) => e = .returned (.tuple #[.string ⟨#[]⟩, .int .i64 2]) ∧ Below w.heap.size w w') = RES at *
  go_enter Tryz.func7, Tryz.ntmps7
  have hz0 : w.heap.size < (w.alloc (.cells #[.slice a n c] 24)).heap.size := by simp
  go_upto_region 1 with (fail)
  have HV := Lib.hid (heap_alloc_new w (.cells #[.slice a n c] 24))
  have HB := Lib.hid (fp_below w (.cells #[.slice a n c] 24))
  generalize World.alloc w _ = V at *
  have k0 := cell_of_row _ _ 0 _ _ _ HV.out
  go_wp2_with (go_at_call 18; refine (HCK.out _ HB.out).mono ?_; rintro e w1 ⟨rfl, hb1⟩)
  exact HRES.out _ (HB.out.trans (hb1.mono HB.out.size))
/-- what Print hands back -/
def prT (n : Nat) (ps : Nat → PR) : Tx := if checkB n ps = true then filT (ppsOf n ps) else []
def prE (n : Nat) (ps : Nat → PR) : Int := if checkB n ps = true then 0 else 2
theorem plPrint_any (a : Option Addr) (n c : Nat) (ps : Nat → PR) (w : World) (B : Nat) (hBw : B ≤ w.heap.size) (hP : Planes B w a n ps) (htab : Lib.TabIs Tryz.prog w "internal/strconv.uint64pow10" .u64 Lib.pow10Tab) :
    Calls Tryz.prog 7 #[setupV a n c] w fun e w' => e = .returned (.tuple #[.string ⟨(prT n ps).toArray⟩, .int .i64 (prE n ps)]) ∧ Below w.heap.size w w' := by
  by_cases hC : checkB n ps = true
  · unfold prT prE
    rw [if_pos hC, if_pos hC]
    exact plPrint_ok a n c ps w B hBw hP hC htab
  · unfold prT prE
    rw [if_neg hC, if_neg hC]
    exact plPrint_bad a n c ps w B hBw hP (by simpa using hC)
end Go.Proofs.YtegimepmccilfaaGreatDoor
