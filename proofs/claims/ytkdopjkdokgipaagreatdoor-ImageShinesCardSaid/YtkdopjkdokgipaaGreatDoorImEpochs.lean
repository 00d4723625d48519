/- The walk of image.Epochs, where all images are as defined and have fields. -/
import Derived.Test.YtkdopjkdokgipaaGreatDoorGkA
import Derived.Test.YtkdopjkdokgipaaGreatDoorGpA
import Derived.Test.YtkdopjkdokgipaaGreatDoorGmA
namespace Go.Proofs.YtkdopjkdokgipaaGreatDoor
open Go.RowKit
set_option linter.unusedVariables false
set_option linter.unusedSimpArgs false
theorem info_spanrow : (Tryz.prog.info? 46).map (fun i => (i.zero, i.size, i.bytes)) = some (some (.slice none 0 0), 1, 24) := by kernel_rfl
theorem make_spanrows (n : Nat) (hn : n ≤ 1000000) (W : World) : (Instr.makeSlice 67 (.int .i64 (n : Int)) (.int .i64 (n : Int))).run Tryz.prog W = .ok (.slice (some ⟨W.heap.size, 0, none⟩) n n) (W.alloc (.cells (madeCells #[.slice none 0 0] n) 46)) := by
  obtain ⟨i0, hi, hz0, hz1, hz2⟩ := info_parts info_spanrow
  have := run_make (P := Tryz.prog) W 67 46 i0 _ Tryz.underlying67 hi hz0 .i64 .i64 (n : Int) (n : Int) (by omega) (Int.le_refl _) (by rw [hz2]; omega) (by omega)
  rw [hz1, show (Value.slice none 0 0).cells = #[.slice none 0 0] from rfl] at this
  simpa using this
/-- the bounds of all epochs, so far -/
structure EpI (N : Nat) (w1 : World) (eb t n : Nat) (H : Nat → List (List Int)) (i : Nat) (sbs : Nat → Nat) (W : World) : Prop where
  below : Below N w1 W
  ebN : N ≤ eb
  row : VR 46 W eb t (fun j => if j < i then .slice (some ⟨sbs j, 0, none⟩) n n else .slice none 0 0)
  le : ∀ j, j < i → N ≤ sbs j ∧ sbs j ≠ eb
  sp : ∀ j, j < i → SR 28 W (sbs j) n (fun c => bnd (fun f => fOf f c) (H j))
/-- the same, within an epoch -/
structure EpJ (N : Nat) (w1 : World) (eb t n : Nat) (H : Nat → List (List Int)) (i : Nat) (sbs : Nat → Nat) (sb k : Nat) (W : World) : Prop where
  below : Below N w1 W
  ebN : N ≤ eb
  row : VR 46 W eb t (fun j => if j = i then .slice (some ⟨sb, 0, none⟩) n n else if j < i then .slice (some ⟨sbs j, 0, none⟩) n n else .slice none 0 0)
  le : ∀ j, j < i → N ≤ sbs j ∧ sbs j ≠ eb ∧ sbs j ≠ sb
  sp : ∀ j, j < i → SR 28 W (sbs j) n (fun c => bnd (fun f => fOf f c) (H j))
  sbN : N ≤ sb ∧ sb ≠ eb
  new : SR 28 W sb n (fun c => bnd (fun f => fOf f c) ((H i).take k))
section
variable {N : Nat} {w1 : World} {eb t n : Nat} {H : Nat → List (List Int)} {i : Nat} {sbs : Nat → Nat} {sb k : Nat} {W W' : World}
theorem EpI.start (h : EpI N w1 eb t n H i sbs W) (hi : i < t) : EpJ N w1 eb t n H i sbs W.heap.size 0 ((W.setCell ⟨eb, i, none⟩ (.slice (some ⟨W.heap.size, 0, none⟩) n n)).alloc (.cells (madeCells #[.int .i64 0, .int .i64 0] (n * 2)) 28)) := by
  have hez := h.row.lt
  have hz : (W.setCell ⟨eb, i, none⟩ (.slice (some ⟨W.heap.size, 0, none⟩) n n)).heap.size = W.heap.size := by simp
  refine ⟨(h.below.setCell (p := ⟨eb, i, none⟩) h.ebN _).trans ((alloc_below _ _).mono (by have := h.ebN; omega)), h.ebN, (h.row.set hi _).alloc _, fun j hj => ?_, fun j hj => ((h.sp j hj).other (h.le j hj).2.symm _).alloc _, ⟨by have := h.ebN; omega, by omega⟩, ?_⟩
  · have := (h.sp j hj).lt
    have := h.le j hj
    omega
  · have := SR.made (W.setCell ⟨eb, i, none⟩ (.slice (some ⟨W.heap.size, 0, none⟩) n n)) 28 n
    rw [hz] at this
    exact this.congr (fun j _ => by rw [List.take_zero]; rfl)
theorem EpJ.grown (h : EpJ N w1 eb t n H i sbs sb k W) (hg : W.grownBy W' (some sb)) {k' : Nat} (hs : SR 28 W' sb n (fun c => bnd (fun f => fOf f c) ((H i).take k'))) : EpJ N w1 eb t n H i sbs sb k' W' := by
  have hez := h.row.lt
  refine ⟨h.below.grown hg (by have := h.ebN; omega) (fun b hb => by injection hb with hb; have := h.sbN; omega), h.ebN, h.row.block (hg.block eb hez (by intro e; injection e with e; exact h.sbN.2 e.symm)), h.le, fun j hj => (h.sp j hj).block (hg.block _ (h.sp j hj).lt (by intro e; injection e with e; exact (h.le j hj).2.2 e)), h.sbN, hs⟩
theorem EpJ.stop (h : EpJ N w1 eb t n H i sbs sb k W) (hk : (H i).length ≤ k) : EpI N w1 eb t n H (i + 1) (fun j => if j = i then sb else sbs j) W := by
  refine ⟨h.below, h.ebN, h.row.congr (fun j _ => ?_), fun j hj => ?_, fun j hj => ?_⟩
  · by_cases e : j = i
    · rw [if_pos e, if_pos (by omega), if_pos e]
    · rw [if_neg e, if_neg e]
      by_cases e2 : j < i
      · rw [if_pos e2, if_pos (by omega)]
      · rw [if_neg e2, if_neg (by omega)]
  · by_cases e : j = i
    · rw [if_pos e]; exact h.sbN
    · rw [if_neg e]; exact ⟨(h.le j (by omega)).1, (h.le j (by omega)).2.1⟩
  · by_cases e : j = i
    · subst e
      rw [if_pos rfl]
      have := h.new
      rwa [List.take_of_length_le hk] at this
    · rw [if_neg e]; exact h.sp j (by omega)
end
/-- what Epochs hands back -/
def EpRes (t n : Nat) (H : Nat → List (List Int)) (w : World) (e : Ending) (w' : World) : Prop :=
  Below w.heap.size w w' ∧ (((∀ i, i < t → H i ≠ []) ∧ ∃ (eb : Nat) (sbs : Nat → Nat), e = .returned (.tuple #[.slice (some ⟨eb, 0, none⟩) t t, .int .i64 0]) ∧ ∀ i, i < t → w'.cell? ⟨eb, i, none⟩ = some (.slice (some ⟨sbs i, 0, none⟩) n n) ∧ w.heap.size ≤ sbs i ∧ SR 28 w' (sbs i) n (fun c => bnd (fun f => fOf f c) (H i))) ∨
    ((∃ i, i < t ∧ H i = []) ∧ e = .returned (.tuple #[.slice none 0 0, .int .i64 5])))
set_option maxRecDepth 100000 in
set_option maxHeartbeats 4000000 in
theorem Epochs_ok (a : Option Addr) (t c : Nat) (im : Nat → IM) (n : Nat) (ch : Int) (w : World) (B : Nat) (hBw : B ≤ w.heap.size) (hI : Imgs B w a t im) (hM : MovOk t n im) (hch : 0 ≤ ch ∧ ch ≤ 1000) :
    Calls Tryz.prog 26 #[.slice a t c, .int .i64 ch] w (EpRes t n (histF n ch (fun i => (im i).F) t) w) := by
  have ht1 := hM.t1
  have ht6 := hM.t6
  have hsh : ∀ i, i < t → Shape n (im i).ss (im i).bn (im i).bs := fun i hi => by have := shapeB_iff.1 (hM.shape i hi); rwa [hM.same i hi] at this
  have hn40 := (hsh 0 (by omega)).n40
  have hn1 := (hsh 0 (by omega)).n1
  have hFe : ∀ i, i < t → (im i).F = allF n (im i).ss (im i).bn (im i).bs := fun i hi => by unfold IM.F; rw [hM.same i hi]
  have HI := Lib.hid hI
  have HSM := Lib.hid hM.same
  obtain ⟨L, hL⟩ : ∃ L : Nat → List (List Int), L = fun i => (im i).F := ⟨_, rfl⟩
  have HMV := Lib.hid (show Calls Tryz.prog 66 #[.slice a t c, .bool true] w (fun e w' => Below w.heap.size w w' ∧ ∃ ob, e = .returned (.tuple #[.slice (some ⟨ob, 0, none⟩) t t, .int .i64 0]) ∧ w.heap.size ≤ ob ∧ AllAt w' ob t n L) from by rw [hL]; exact moving_ok a t c im n w B hBw hI hM)
  have HLEN := Lib.hid (fun i (hi : i < t) => show (L i).length ≤ 1000 from by
    have h1 := allF_le (hsh i hi) (by have := hM.short i hi; rwa [hM.same i hi] at this)
    rw [← hFe i hi] at h1
    rw [hL]
    dsimp only
    omega)
  have HDN := Lib.hid (fun i (hi : i < t) => show DenseL n (L i) from by rw [hL]; show DenseL n (im i).F; rw [hFe i hi]; exact allF_dense (hsh i hi))
  rw [← hL]
  clear hI hM hsh hFe hL
  have HFW := Lib.hid (fun j => fwd_sub (n := n) (c := ch) (L := L) j)
  have HHI := Lib.hid (fun j (hj : j < t) => hist_sub (n := n) (c := ch) (L := L) hj)
  have HST := Lib.hid (fun j (hj : j + 1 < t) => histF_step (n := n) (c := ch) (L := L) hj)
  have HLA := Lib.hid (histF_last (n := n) (c := ch) (L := L) (t := t))
  have hin : inB ch 0 1000 = true := inB_iff.2 hch
  have hmk := make_spanrows t (by omega)
  have hmk2 := make_spans n (by omega)
  have HR1 := Lib.hid (fun (w' : World) (hb : Below w.heap.size w w') (i : Nat) (hi : i < t) (h0 : histF n ch L t i = []) => show EpRes t n (histF n ch L t) w (.returned (.tuple #[.slice none 0 0, .int .i64 5])) w' from ⟨hb, .inr ⟨⟨i, hi, h0⟩, rfl⟩⟩)
  have HR2 := Lib.hid (fun (w' : World) (hb : Below w.heap.size w w') (h0 : ∀ i, i < t → histF n ch L t i ≠ []) (eb : Nat) (sbs : Nat → Nat) (h : ∀ i, i < t → w'.cell? ⟨eb, i, none⟩ = some (.slice (some ⟨sbs i, 0, none⟩) n n) ∧ w.heap.size ≤ sbs i ∧ SR 28 w' (sbs i) n (fun c => bnd (fun f => fOf f c) (histF n ch L t i))) => show EpRes t n (histF n ch L t) w (.returned (.tuple #[.slice (some ⟨eb, 0, none⟩) t t, .int .i64 0])) w' from ⟨hb, .inl ⟨h0, eb, sbs, rfl, h⟩⟩)
  generalize EpRes t n (histF n ch L t) w = RES at *
  clear hch
  go_enter Tryz.func26, Tryz.ntmps26
  go_upto_region 4 with (first | (go_at_call 49; refine (in_any _ _ _ _).mono ?_; rintro e w' ⟨rfl, rfl⟩; rw [hin]) | (go_at_call 66; refine HMV.out.mono ?_; rintro e w1 ⟨hb1, ob, rfl, hob, hAll⟩))
  have HA1 := Lib.hid (hAll.congr (M' := fun j => if j < 1 then fwdF n ch L j else L j) (fun j _ => by
    by_cases e : j < 1
    · obtain rfl : j = 0 := by omega
      rw [if_pos e]; rfl
    · rw [if_neg e]))
  have HB1 := Lib.hid hb1
  have hobz := hAll.lt
  generalize hN : w1.heap.size = N at *
  have HNN := Lib.hid hN
  have hNw : w.heap.size ≤ w1.heap.size := hb1.size
  clear hN hAll hb1 HMV
  go_wp2
  go_loopw [8] (fun s8 wr => ∃ i : Nat, 1 ≤ i ∧ i ≤ t ∧ s8 = .int .i64 (i : Int) ∧ Hid (Below w.heap.size w wr ∧ w1.heap.size ≤ wr.heap.size ∧ AllAt wr ob t n (fun j => if j < i then fwdF n ch L j else L j))) (fun s8 _ => t - (intOf s8).toNat)
  case atStart => exact ⟨1, Nat.le_refl _, ht1, rfl, Lib.hid ⟨HB1.out, Nat.le_refl _, HA1.out⟩⟩
  case round =>
    clear HA1
    obtain ⟨i, hi1, hi, rfl, HX⟩ := hrel
    by_cases hlt : i < t
    · have hlt' : (i : Int) < (t : Int) := by omega
      have j1 : (0 : Int) ≤ (i : Int) - 1 := by omega
      have j2 : ((i : Int) - 1).toNat = i - 1 := by omega
      have j3 : (i : Int) - 1 < (t : Int) := by omega
      have j4 : i - 1 < t := by omega
      have j6 : IntKind.i64.wrap ((i : Int) - 1) = (i : Int) - 1 := IntWalk.i64_in _ (by omega)
      have j7 : (1 : Int) ≤ (i : Int) := by omega
      obtain ⟨ai, ci, x0, x1, x2⟩ := HX.out.2.2.get hlt
      obtain ⟨ap, cp, y0, y1, y2⟩ := HX.out.2.2.get (j := i - 1) (by omega)
      rw [if_neg (Nat.lt_irrefl i)] at x0 x2
      rw [if_pos (by omega)] at y0 y2
      have HNR := Lib.hid (fun (W : World) (hb : Below wr.heap.size wr W) => near_any ai n ci (L i) ap cp (fwdF n ch L (i - 1)) ch W ((x2.below hb).up hb.size) ((y2.below hb).up hb.size) (by have := HLEN.out i hlt; omega) (by have := HLEN.out (i - 1) (by omega); have := (HFW.out (i - 1)).2; omega) (by omega) (HDN.out i hlt) (fun f hf => HDN.out (i - 1) (by omega) f ((HFW.out (i - 1)).1 f hf)))
      have HFI := Lib.hid (show nearF n ch (L i) (fwdF n ch L (i - 1)) = fwdF n ch L i from by
        obtain ⟨i', rfl⟩ : ∃ i', i = i' + 1 := ⟨i - 1, by omega⟩
        rfl)
      rw [HFI.out] at HNR
      have hobz2 := HX.out.2.2.lt
      clear x2 y2
      generalize hli : (L i).length = li at *
      have HLI := Lib.hid hli
      clear hli
      generalize (fwdF n ch L (i - 1)).length = lp at *
      go_upto_region 7 with (fail)
      refine wp_region_any (by kernel_rfl) ?_
      change wpAny _ _ _ _ _ _ _ (World.drew wr)
      have x0 : wr.drew.cell? ⟨ob, i, none⟩ = _ := x0
      have y0 : wr.drew.cell? ⟨ob, i - 1, none⟩ = _ := y0
      have HD := Lib.hid (show Below wr.heap.size wr wr.drew from (Below.refl _ _).drew)
      have hzd : wr.drew.heap.size = wr.heap.size := rfl
      generalize World.drew wr = Wd at *
      refine any_of_tail 13 13 (fun w' => w'.cell? ⟨ob, i, none⟩ = some (.slice ai li ci) ∧ w'.cell? ⟨ob, i - 1, none⟩ = some (.slice ap lp cp)) (by kernel_rfl) ⟨x0, y0⟩ (fun hS => ?_)
      refine headH_take (i := 0) (v := ?_) rfl (by kernel_rfl) (fun _ _ _ h => h) (Or.inl ⟨by rfl, ?_⟩) (by assumption) ?_; rotate_left; (· intro w' hSw; (try dsimp only at hSw); (try obtain ⟨hSw1, hSw2⟩ := hSw); go_simp; (try with_reducible rfl)); (try dsimp only [Act.put]); (try simp only [List.setIfInBounds_toArray, List.set_cons_zero, List.set_cons_succ])
      refine headH_take (i := 1) (v := ?_) rfl (by kernel_rfl) (fun _ _ _ h => h) (Or.inl ⟨by rfl, ?_⟩) (by assumption) ?_; rotate_left; (· intro w' hSw; (try dsimp only at hSw); (try obtain ⟨hSw1, hSw2⟩ := hSw); go_simp; (try with_reducible rfl)); (try dsimp only [Act.put]); (try simp only [List.setIfInBounds_toArray, List.set_cons_zero, List.set_cons_succ])
      refine headH_take (i := 2) (v := ?_) rfl (by kernel_rfl) (fun _ _ _ h => h) (Or.inl ⟨by rfl, ?_⟩) (by assumption) ?_; rotate_left; (· intro w' hSw; (try dsimp only at hSw); (try obtain ⟨hSw1, hSw2⟩ := hSw); go_simp; (try with_reducible rfl)); (try dsimp only [Act.put]); (try simp only [List.setIfInBounds_toArray, List.set_cons_zero, List.set_cons_succ])
      refine headH_take (i := 3) (v := ?_) rfl (by kernel_rfl) (fun _ _ _ h => h) (Or.inl ⟨by rfl, ?_⟩) (by assumption) ?_; rotate_left; (· intro w' hSw; (try dsimp only at hSw); (try obtain ⟨hSw1, hSw2⟩ := hSw); go_simp; (try with_reducible rfl)); (try dsimp only [Act.put]); (try simp only [List.setIfInBounds_toArray, List.set_cons_zero, List.set_cons_succ])
      refine headH_take (i := 4) (v := ?_) rfl (by kernel_rfl) (fun _ _ _ h => h) (Or.inl ⟨by rfl, ?_⟩) (by assumption) ?_; rotate_left; (· intro w' hSw; (try dsimp only at hSw); (try obtain ⟨hSw1, hSw2⟩ := hSw); go_simp; (try with_reducible rfl)); (try dsimp only [Act.put]); (try simp only [List.setIfInBounds_toArray, List.set_cons_zero, List.set_cons_succ])
      refine headH_take (i := 5) (v := ?_) rfl (by kernel_rfl) (fun _ _ _ h => h) (Or.inl ⟨by rfl, ?_⟩) (by assumption) ?_; rotate_left; (· intro w' hSw; (try dsimp only at hSw); (try obtain ⟨hSw1, hSw2⟩ := hSw); go_simp; (try with_reducible rfl)); (try dsimp only [Act.put]); (try simp only [List.setIfInBounds_toArray, List.set_cons_zero, List.set_cons_succ])
      refine headH_take (i := 6) (v := ?_) rfl (by kernel_rfl) (fun _ _ _ h => h) (Or.inl ⟨by rfl, ?_⟩) (by assumption) ?_; rotate_left; (· intro w' hSw; (try dsimp only at hSw); (try obtain ⟨hSw1, hSw2⟩ := hSw); go_simp; (try with_reducible rfl)); (try dsimp only [Act.put]); (try simp only [List.setIfInBounds_toArray, List.set_cons_zero, List.set_cons_succ])
      refine headH_take (i := 7) (v := ?_) rfl (by kernel_rfl) (fun _ _ _ h => h) (Or.inl ⟨by rfl, ?_⟩) (by assumption) ?_; rotate_left; (· intro w' hSw; (try dsimp only at hSw); (try obtain ⟨hSw1, hSw2⟩ := hSw); go_simp; (try with_reducible rfl)); (try dsimp only [Act.put]); (try simp only [List.setIfInBounds_toArray, List.set_cons_zero, List.set_cons_succ])
      refine headH_take (i := 8) (v := ?_) rfl (by kernel_rfl) (fun _ _ _ h => h) (Or.inl ⟨by rfl, ?_⟩) (by assumption) ?_; rotate_left; (· intro w' hSw; (try dsimp only at hSw); (try obtain ⟨hSw1, hSw2⟩ := hSw); go_simp; (try with_reducible rfl)); (try dsimp only [Act.put]); (try simp only [List.setIfInBounds_toArray, List.set_cons_zero, List.set_cons_succ])
      refine headH_take (i := 9) (v := ?_) rfl (by kernel_rfl) (fun _ _ _ h => h) (Or.inl ⟨by rfl, ?_⟩) (by assumption) ?_; rotate_left; (· intro w' hSw; (try dsimp only at hSw); (try obtain ⟨hSw1, hSw2⟩ := hSw); go_simp; (try with_reducible rfl)); (try dsimp only [Act.put]); (try simp only [List.setIfInBounds_toArray, List.set_cons_zero, List.set_cons_succ])
      refine headH_take (i := 10) (v := ?_) rfl (by kernel_rfl) (fun _ _ _ h => h) (Or.inl ⟨by rfl, ?_⟩) (by assumption) ?_; rotate_left; (· intro w' hSw; (try dsimp only at hSw); (try obtain ⟨hSw1, hSw2⟩ := hSw); go_simp; (try with_reducible rfl)); (try dsimp only [Act.put]); (try simp only [List.setIfInBounds_toArray, List.set_cons_zero, List.set_cons_succ])
      refine headH_take (i := 11) (v := ?_) rfl (by kernel_rfl) (fun _ _ _ h => h) (Or.inl ⟨by rfl, ?_⟩) (by assumption) ?_; rotate_left; (· intro w' hSw; (try dsimp only at hSw); (try obtain ⟨hSw1, hSw2⟩ := hSw); go_simp; (try with_reducible rfl)); (try dsimp only [Act.put]); (try simp only [List.setIfInBounds_toArray, List.set_cons_zero, List.set_cons_succ])
      refine headH_all (rs := [12]) (by kernel_rfl) (by simp) (by kernel_rfl) ?_; intro i0 hi0; simp only [List.mem_cons, List.not_mem_nil, or_false] at hi0
      subst hi0
      refine headH_op rfl (fun K hK => ?_)
      go_simp
      refine (HNR.out Wd HD.out).mono ?_
      rintro e W3 ⟨hb3, na, nc, rfl, hfl3, hna⟩
      dsimp only
      have hz3 := hb3.size
      have HBX := Lib.hid (HX.out.1.trans ((HD.out.trans (hb3.mono (by omega))).mono HX.out.1.size))
      have x3 := ((bcell hb3).1 ob i (by omega)).trans x0
      have y3 := ((bcell hb3).1 ob (i - 1) (by omega)).trans y0
      have HP := Lib.hid (((HX.out.2.2.put hn1 (HD.out.trans (hb3.mono (by omega))) hlt (c := nc) hfl3 (fun b off h => by have := hna b off h; omega)).congr (M' := fun j => if j < i + 1 then fwdF n ch L j else L j) (fun j _ => by
        by_cases e : j = i
        · rw [if_pos e, if_pos (by omega), e]
        · rw [if_neg e]
          by_cases e2 : j < i
          · rw [if_pos e2, if_pos (by omega)]
          · rw [if_neg e2, if_neg (by omega)])))
      have f3 : W3.frozen? ⟨ob, i, none⟩ = false := by
        rw [World.frozen?_of_block ((hb3.block ob (by omega)).trans (HD.out.block ob hobz2))]
        exact x1
      refine hK.out _ _ ⟨x3, y3⟩ (fun hS2 => ?_)
      clear hK K hS hS2 hfl3
      (try dsimp only [Act.put]); (try simp only [List.setIfInBounds_toArray, List.set_cons_zero, List.set_cons_succ])
      change tailL _ _ _ _ _ _ _ _
      refine ⟨by kernel_rfl, ?_⟩
      simp only [List.drop_succ_cons, List.drop_zero]
      have HFN := Lib.hid (show Below w.heap.size w (W3.setCell ⟨ob, i, none⟩ (.slice na (fwdF n ch L i).length nc)) ∧ w1.heap.size ≤ (W3.setCell ⟨ob, i, none⟩ (.slice na (fwdF n ch L i).length nc)).heap.size ∧ AllAt (W3.setCell ⟨ob, i, none⟩ (.slice na (fwdF n ch L i).length nc)) ob t n (fun j => if j < i + 1 then fwdF n ch L j else L j) from ⟨HBX.out.setCell (p := ⟨ob, i, none⟩) hob _, by have := HX.out.2.1; simp; omega, HP.out⟩)
      clear j1 j2 j3 j6 j7 hb3 hna HNR x0 y0 y3 HX HD x1 y1 HP HBX hzd
      go_wp2
      exact ⟨⟨i + 1, by omega, by omega, by go_num, HFN⟩, by simp [intOf]; omega⟩
    · obtain rfl : t = i := by omega
      have hlt' : ¬ (t : Int) < (t : Int) := by omega
      have HA2 := Lib.hid (HX.out.2.2.congr (M' := fun j => if t - 1 ≤ j then histF n ch L t j else fwdF n ch L j) (fun j hj => by
        rw [if_pos hj]
        by_cases e : t - 1 ≤ j
        · obtain rfl : j = t - 1 := by omega
          rw [if_pos e, HLA.out]
        · rw [if_neg e]))
      have HBX := Lib.hid (And.intro HX.out.1 HX.out.2.1)
      have e2 : (t : Int) - 2 = ((t - 1 : Nat) : Int) - 1 := by omega
      have HE2 := Lib.hid e2
      clear e2 HX
      go_wp2
      go_loopw [9] (fun s9 wx => ∃ q : Nat, q ≤ t - 1 ∧ s9 = .int .i64 ((q : Int) - 1) ∧ Hid ((Below w.heap.size w wx ∧ w1.heap.size ≤ wx.heap.size) ∧ AllAt wx ob t n (fun j => if q ≤ j then histF n ch L t j else fwdF n ch L j))) (fun s9 _ => (intOf s9 + 1).toNat)
      case atStart => exact ⟨t - 1, Nat.le_refl _, by first | rw [HE2.out] | (rw [IntWalk.i64_in _ (by omega), HE2.out]), Lib.hid ⟨HBX.out, HA2.out⟩⟩
      case round =>
        clear HA2 HBX
        obtain ⟨q, hq, rfl, HX⟩ := hrel
        by_cases hq0 : 1 ≤ q
        · obtain ⟨i, rfl⟩ : ∃ i, q = i + 1 := ⟨q - 1, by omega⟩
          have ei : ((i + 1 : Nat) : Int) - 1 = (i : Int) := by omega
          rw [ei]
          have hi0 : (0 : Int) ≤ (i : Int) := by omega
          obtain ⟨ai, ci, x0, x1, x2⟩ := HX.out.2.get (j := i) (by omega)
          obtain ⟨ap, cp, y0, y1, y2⟩ := HX.out.2.get (j := i + 1) (by omega)
          rw [if_neg (by omega)] at x0 x2
          rw [if_pos (Nat.le_refl _)] at y0 y2
          have HNR := Lib.hid (fun (W : World) (hb : Below wr.heap.size wr W) => near_any ai n ci (fwdF n ch L i) ap cp (histF n ch L t (i + 1)) ch W ((x2.below hb).up hb.size) ((y2.below hb).up hb.size) (by have := HLEN.out i (by omega); have := (HFW.out i).2; omega) (by have := HLEN.out (i + 1) (by omega); have := (HHI.out (i + 1) (by omega)).2; omega) (by omega) (fun f hf => HDN.out i (by omega) f ((HFW.out i).1 f hf)) (fun f hf => HDN.out (i + 1) (by omega) f ((HHI.out (i + 1) (by omega)).1 f hf)))
          rw [← HST.out i (by omega)] at HNR
          have hobz2 := HX.out.2.lt
          have j1 : IntKind.i64.wrap ((i : Int) + 1) = (i : Int) + 1 := IntWalk.i64_in _ (by omega)
          have j2 : ((i : Int) + 1).toNat = i + 1 := by omega
          have j7 : (0 : Int) ≤ (i : Int) + 1 := by omega
          have j3 : (i : Int) + 1 < (t : Int) := by omega
          have j4 : i + 1 < t := by omega
          have j5 : (i : Int) < (t : Int) := by omega
          have j6 : i < t := by omega
          clear x2 y2 ei
          generalize (fwdF n ch L i).length = li at *
          generalize (histF n ch L t (i + 1)).length = lp at *
          go_upto_region 11 with (fail)
          refine wp_region_any (by kernel_rfl) ?_
          change wpAny _ _ _ _ _ _ _ (World.drew wr)
          have x0 : wr.drew.cell? ⟨ob, i, none⟩ = _ := x0
          have y0 : wr.drew.cell? ⟨ob, i + 1, none⟩ = _ := y0
          have HD := Lib.hid (show Below wr.heap.size wr wr.drew from (Below.refl _ _).drew)
          have hzd : wr.drew.heap.size = wr.heap.size := rfl
          generalize World.drew wr = Wd at *
          refine any_of_tail 13 13 (fun w' => w'.cell? ⟨ob, i, none⟩ = some (.slice ai li ci) ∧ w'.cell? ⟨ob, i + 1, none⟩ = some (.slice ap lp cp)) (by kernel_rfl) ⟨x0, y0⟩ (fun hS => ?_)
          refine headH_take (i := 0) (v := ?_) rfl (by kernel_rfl) (fun _ _ _ h => h) (Or.inl ⟨by rfl, ?_⟩) (by assumption) ?_; rotate_left; (· intro w' hSw; (try dsimp only at hSw); (try obtain ⟨hSw1, hSw2⟩ := hSw); go_simp; (try with_reducible rfl)); (try dsimp only [Act.put]); (try simp only [List.setIfInBounds_toArray, List.set_cons_zero, List.set_cons_succ])
          refine headH_take (i := 1) (v := ?_) rfl (by kernel_rfl) (fun _ _ _ h => h) (Or.inl ⟨by rfl, ?_⟩) (by assumption) ?_; rotate_left; (· intro w' hSw; (try dsimp only at hSw); (try obtain ⟨hSw1, hSw2⟩ := hSw); go_simp; (try with_reducible rfl)); (try dsimp only [Act.put]); (try simp only [List.setIfInBounds_toArray, List.set_cons_zero, List.set_cons_succ])
          refine headH_take (i := 2) (v := ?_) rfl (by kernel_rfl) (fun _ _ _ h => h) (Or.inl ⟨by rfl, ?_⟩) (by assumption) ?_; rotate_left; (· intro w' hSw; (try dsimp only at hSw); (try obtain ⟨hSw1, hSw2⟩ := hSw); go_simp; (try with_reducible rfl)); (try dsimp only [Act.put]); (try simp only [List.setIfInBounds_toArray, List.set_cons_zero, List.set_cons_succ])
          refine headH_take (i := 3) (v := ?_) rfl (by kernel_rfl) (fun _ _ _ h => h) (Or.inl ⟨by rfl, ?_⟩) (by assumption) ?_; rotate_left; (· intro w' hSw; (try dsimp only at hSw); (try obtain ⟨hSw1, hSw2⟩ := hSw); go_simp; (try with_reducible rfl)); (try dsimp only [Act.put]); (try simp only [List.setIfInBounds_toArray, List.set_cons_zero, List.set_cons_succ])
          refine headH_take (i := 4) (v := ?_) rfl (by kernel_rfl) (fun _ _ _ h => h) (Or.inl ⟨by rfl, ?_⟩) (by assumption) ?_; rotate_left; (· intro w' hSw; (try dsimp only at hSw); (try obtain ⟨hSw1, hSw2⟩ := hSw); go_simp; (try with_reducible rfl)); (try dsimp only [Act.put]); (try simp only [List.setIfInBounds_toArray, List.set_cons_zero, List.set_cons_succ])
          refine headH_take (i := 5) (v := ?_) rfl (by kernel_rfl) (fun _ _ _ h => h) (Or.inl ⟨by rfl, ?_⟩) (by assumption) ?_; rotate_left; (· intro w' hSw; (try dsimp only at hSw); (try obtain ⟨hSw1, hSw2⟩ := hSw); go_simp; (try with_reducible rfl)); (try dsimp only [Act.put]); (try simp only [List.setIfInBounds_toArray, List.set_cons_zero, List.set_cons_succ])
          refine headH_take (i := 6) (v := ?_) rfl (by kernel_rfl) (fun _ _ _ h => h) (Or.inl ⟨by rfl, ?_⟩) (by assumption) ?_; rotate_left; (· intro w' hSw; (try dsimp only at hSw); (try obtain ⟨hSw1, hSw2⟩ := hSw); go_simp; (try with_reducible rfl)); (try dsimp only [Act.put]); (try simp only [List.setIfInBounds_toArray, List.set_cons_zero, List.set_cons_succ])
          refine headH_take (i := 7) (v := ?_) rfl (by kernel_rfl) (fun _ _ _ h => h) (Or.inl ⟨by rfl, ?_⟩) (by assumption) ?_; rotate_left; (· intro w' hSw; (try dsimp only at hSw); (try obtain ⟨hSw1, hSw2⟩ := hSw); go_simp; (try with_reducible rfl)); (try dsimp only [Act.put]); (try simp only [List.setIfInBounds_toArray, List.set_cons_zero, List.set_cons_succ])
          refine headH_take (i := 8) (v := ?_) rfl (by kernel_rfl) (fun _ _ _ h => h) (Or.inl ⟨by rfl, ?_⟩) (by assumption) ?_; rotate_left; (· intro w' hSw; (try dsimp only at hSw); (try obtain ⟨hSw1, hSw2⟩ := hSw); go_simp; (try with_reducible rfl)); (try dsimp only [Act.put]); (try simp only [List.setIfInBounds_toArray, List.set_cons_zero, List.set_cons_succ])
          refine headH_take (i := 9) (v := ?_) rfl (by kernel_rfl) (fun _ _ _ h => h) (Or.inl ⟨by rfl, ?_⟩) (by assumption) ?_; rotate_left; (· intro w' hSw; (try dsimp only at hSw); (try obtain ⟨hSw1, hSw2⟩ := hSw); go_simp; (try with_reducible rfl)); (try dsimp only [Act.put]); (try simp only [List.setIfInBounds_toArray, List.set_cons_zero, List.set_cons_succ])
          refine headH_take (i := 10) (v := ?_) rfl (by kernel_rfl) (fun _ _ _ h => h) (Or.inl ⟨by rfl, ?_⟩) (by assumption) ?_; rotate_left; (· intro w' hSw; (try dsimp only at hSw); (try obtain ⟨hSw1, hSw2⟩ := hSw); go_simp; (try with_reducible rfl)); (try dsimp only [Act.put]); (try simp only [List.setIfInBounds_toArray, List.set_cons_zero, List.set_cons_succ])
          refine headH_take (i := 11) (v := ?_) rfl (by kernel_rfl) (fun _ _ _ h => h) (Or.inl ⟨by rfl, ?_⟩) (by assumption) ?_; rotate_left; (· intro w' hSw; (try dsimp only at hSw); (try obtain ⟨hSw1, hSw2⟩ := hSw); go_simp; (try with_reducible rfl)); (try dsimp only [Act.put]); (try simp only [List.setIfInBounds_toArray, List.set_cons_zero, List.set_cons_succ])
          refine headH_all (rs := [12]) (by kernel_rfl) (by simp) (by kernel_rfl) ?_; intro i0 hi0; simp only [List.mem_cons, List.not_mem_nil, or_false] at hi0
          subst hi0
          refine headH_op rfl (fun K hK => ?_)
          go_simp
          refine (HNR.out Wd HD.out).mono ?_
          rintro e W3 ⟨hb3, na, nc, rfl, hfl3, hna⟩
          dsimp only
          have hz3 := hb3.size
          have HBX := Lib.hid (HX.out.1.1.trans ((HD.out.trans (hb3.mono (by omega))).mono HX.out.1.1.size))
          have x3 := ((bcell hb3).1 ob i (by omega)).trans x0
          have y3 := ((bcell hb3).1 ob (i + 1) (by omega)).trans y0
          have HP := Lib.hid (((HX.out.2.put hn1 (HD.out.trans (hb3.mono (by omega))) j6 (c := nc) hfl3 (fun b off h => by have := hna b off h; omega)).congr (M' := fun j => if i ≤ j then histF n ch L t j else fwdF n ch L j) (fun j _ => by
            by_cases e : j = i
            · rw [if_pos e, if_pos (by omega), e]
            · rw [if_neg e]
              by_cases e2 : i + 1 ≤ j
              · rw [if_pos e2, if_pos (by omega)]
              · rw [if_neg e2, if_neg (by omega)])))
          have f3 : W3.frozen? ⟨ob, i, none⟩ = false := by
            rw [World.frozen?_of_block ((hb3.block ob (by omega)).trans (HD.out.block ob hobz2))]
            exact x1
          refine hK.out _ _ ⟨x3, y3⟩ (fun hS2 => ?_)
          clear hK K hS hS2 hfl3
          (try dsimp only [Act.put]); (try simp only [List.setIfInBounds_toArray, List.set_cons_zero, List.set_cons_succ])
          change tailL _ _ _ _ _ _ _ _
          refine ⟨by kernel_rfl, ?_⟩
          simp only [List.drop_succ_cons, List.drop_zero]
          have HFN := Lib.hid (show (Below w.heap.size w (W3.setCell ⟨ob, i, none⟩ (.slice na (histF n ch L t i).length nc)) ∧ w1.heap.size ≤ (W3.setCell ⟨ob, i, none⟩ (.slice na (histF n ch L t i).length nc)).heap.size) ∧ AllAt (W3.setCell ⟨ob, i, none⟩ (.slice na (histF n ch L t i).length nc)) ob t n (fun j => if i ≤ j then histF n ch L t j else fwdF n ch L j) from ⟨⟨HBX.out.setCell (p := ⟨ob, i, none⟩) hob _, by have := HX.out.1.2; simp; omega⟩, HP.out⟩)
          clear j1 j2 j3 j4 j7 hb3 hna HNR x0 y0 y3 HX HD x1 y1 HP HBX hzd
          go_wp2
          exact ⟨⟨i, by omega, by first | rfl | go_num | rw [IntWalk.i64_in _ (by omega)], HFN⟩, by show ((i : Int) - 1 + 1).toNat < ((i : Int) + 1).toNat; omega⟩
        · obtain rfl : q = 0 := by omega
          rw [show ((0 : Nat) : Int) - 1 = -1 from rfl]
          obtain ⟨w2, hw2⟩ : ∃ w2, w2 = wr := ⟨_, rfl⟩
          subst hw2
          have HF := Lib.hid (HX.out.2.congr (M' := histF n ch L t) (fun j _ => by rw [if_pos (Nat.zero_le _)]))
          have HBX := Lib.hid HX.out.1
          have hzr := HX.out.1.1.size
          have hobz3 := HX.out.2.lt
          clear HX
          go_upto_region 13 with (fail)
          have HEI := Lib.hid (show EpI w2.heap.size w2 w2.heap.size t n (histF n ch L t) 0 (fun _ => 0) (w2.alloc (.cells (madeCells #[.slice none 0 0] t) 46)) from ⟨alloc_below w2 _, Nat.le_refl _, (VR.made w2 46 t (.slice none 0 0) rfl).congr (fun j _ => by rw [if_neg (by omega)]), fun j hj => by omega, fun j hj => by omega⟩)
          generalize hwN : w2.heap.size = N2 at *
          have HWN := Lib.hid hwN
          clear hwN hmk
          generalize World.alloc w2 _ = V2 at *
          go_wp2
          go_loopw [71] (fun s71 wx => ∃ (i : Nat) (sbs : Nat → Nat), i ≤ t ∧ s71 = .int .i64 (i : Int) ∧ Hid ((∀ j, j < i → histF n ch L t j ≠ []) ∧ EpI N2 w2 N2 t n (histF n ch L t) i sbs wx)) (fun s71 _ => t - (intOf s71).toNat)
          case atStart => exact ⟨0, fun _ => 0, Nat.zero_le _, rfl, Lib.hid ⟨fun j hj => by omega, HEI.out⟩⟩
          case round =>
            clear HEI
            obtain ⟨i, sbs, hi, rfl, HE⟩ := hrel
            have HNE := Lib.hid HE.out.1
            have HEI := Lib.hid HE.out.2
            clear HE
            have hNr := HEI.out.row.lt
            have hBr : Below wr.heap.size wr wr := Below.refl _ _
            by_cases hlt : i < t
            · have hlt' : (i : Int) < (t : Int) := by omega
              obtain ⟨ha, hc, y0, x1, x2⟩ := HF.out.get hlt
              have hobN : ob < N2 := by have := HWN.out; omega
              have x0 := ((bcell HEI.out.below).1 ob i hobN).trans y0
              clear y0 x1
              obtain ⟨xb, xo, rfl, hxB, z0, z1, zS, zM⟩ := (HI.out.below ((HBX.out.1.trans (HEI.out.below.mono (by omega))).mono hBw)).get hlt
              rw [HSM.out i hlt] at z0
              clear z1 zS zM
              have r0 := HEI.out.row.cell hlt
              have r1 := HEI.out.row.frozen i
              have hxz : xb < wr.heap.size := by omega
              by_cases hne : histF n ch L t i = []
              · have hl0 : (histF n ch L t i).length = 0 := by rw [hne]; rfl
                have HRR := Lib.hid (HR1.out wr (HBX.out.1.trans (HEI.out.below.mono (by omega))) i hlt hne)
                rw [hl0] at x0
                clear HF HEI HNE x2 hne hl0
                go_wp2
                exact HRR.out
              · have hl0 : 0 < (histF n ch L t i).length := List.length_pos_iff.2 hne
                have hl1 := (HHI.out i hlt).2
                have hl2 := HLEN.out i hlt
                have HST2 := Lib.hid (HEI.out.start hlt)
                have hBx := HBX.out.1.trans (HEI.out.below.mono (by omega : w.heap.size ≤ N2))
                have HBN := Lib.hid (show w.heap.size ≤ N2 ∧ N2 ≤ wr.heap.size from ⟨by omega, by have := HEI.out.ebN; omega⟩)
                have hne2 := Lib.hid hne
                clear hne
                obtain ⟨H, hH⟩ : ∃ H, H = histF n ch L t := ⟨_, rfl⟩
                rw [← hH] at x0 x2 hl0 hl1 HST2
                generalize hhl : (H i).length = hl at *
                have HHL := Lib.hid hhl
                clear hhl
                have hl3 : ((hl : Int) == 0) = false := by rw [beq_eq_false_iff_ne]; omega
                go_upto_region 19 with (fail)
                clear x0 z0 r0 r1 hmk2
                generalize World.alloc (World.setCell wr _ _) _ = V3 at *
                generalize wr.heap.size = sb at *
                go_wp2
                go_loopw [91] (fun s91 wy => ∃ k : Nat, k ≤ hl ∧ s91 = .int .i64 (k : Int) ∧ Hid (EpJ N2 w2 N2 t n H i sbs sb k wy)) (fun s91 _ => hl - (intOf s91).toNat)
                case atStart => exact ⟨0, Nat.zero_le _, rfl, HST2⟩
                case round =>
                  clear HST2
                  obtain ⟨k, hk, rfl, HJ⟩ := hrel
                  by_cases hlt2 : k < hl
                  · have hlt2' : (k : Int) < (hl : Int) := by omega
                    obtain ⟨fb, fo, ra, rc, rfl, hfb, f0, f1⟩ := x2.get (i := k) (by rw [HHL.out]; exact hlt2)
                    have hJb := HJ.out.below
                    rw [HWN.out] at hfb f1
                    have f2 := ((bcell hJb).1 _ _ hfb).trans f0
                    have hJz := HJ.out.row.lt
                    have hfz : fb < wr.heap.size := by omega
                    have r2 := HJ.out.row.cell hlt
                    rw [if_pos rfl] at r2
                    have hsz := HJ.out.new.lt
                    have HCL := Lib.hid (fun (W : World) (hb : Below wr.heap.size wr W) => widenE_any sb n n (fun c => bnd (fun f => fOf f c) ((H i).take k)) (decide (0 < k)) ra n rc (fOf ((H i).getD k [])) (by omega) W (HJ.out.new.step hb) (fun c hc W' hg => (epochsF_any ra n rc (fOf ((H i).getD k [])) c hc (by omega) W' (by
                      have hbW := hJb.trans (hb.mono (by omega))
                      have hb2 := hbW.grown hg (by have := hbW.size; have := hb.size; omega) (fun b hb => by injection hb with hb; have := HJ.out.sbN; omega)
                      exact (f1.below hb2).up (by have := hg.size; have := hb.size; omega))).mono (fun e W'' h => ⟨h.1, by rw [h.2]; exact Below.refl _ _⟩)))
                    have HTK := Lib.hid (show (fun c => widS (decide (0 < k)) (bnd (fun f => fOf f c) ((H i).take k)) (fOf ((H i).getD k []) c)) = (fun c => bnd (fun f => fOf f c) ((H i).take (k + 1))) from by
                      funext c
                      have hkl : k < (H i).length := by rw [HHL.out]; exact hlt2
                      rw [List.take_add_one, List.getElem?_eq_getElem hkl, List.getD_eq_getElem?_getD, List.getElem?_eq_getElem hkl, show decide (0 < k) = !((H i).take k).isEmpty from by
                        cases k with
                        | zero => simp
                        | succ q =>
                          cases hq : H i with
                          | nil => rw [hq] at hkl; simp at hkl
                          | cons x l => simp]
                      exact wid_bnd (fun f => fOf f c) _ _)
                    rw [HTK.out] at HCL
                    clear f0 f1 HTK
                    go_wp2_with (go_at_call 55; refine (HCL.out _ (by first | exact Below.refl _ _ | exact (Below.refl _ _).drew)).mono ?_; rintro e w6 ⟨rfl, hg6, hs6⟩; have HJ6 := Lib.hid ((HJ.out.grown (W' := wr) ⟨rfl, rfl, rfl, Nat.le_refl _, fun _ _ _ => rfl⟩ HJ.out.new).grown hg6 hs6))
                    exact ⟨⟨k + 1, by omega, by go_num, HJ6⟩, by simp [intOf]; omega⟩
                  · obtain rfl : hl = k := by omega
                    have hlt2' : ¬ (hl : Int) < (hl : Int) := by omega
                    have HEN := Lib.hid (show (∀ j, j < i + 1 → H j ≠ []) ∧ EpI N2 w2 N2 t n H (i + 1) (fun j => if j = i then sb else sbs j) wr from ⟨fun j hj => by
                      by_cases e : j = i
                      · rw [e, hH]; exact hne2.out
                      · rw [hH]; exact HNE.out j (by omega), HJ.out.stop (by rw [HHL.out]; exact Nat.le_refl _)⟩)
                    rw [hH] at HEN
                    go_wp2
                    exact ⟨⟨i + 1, _, by omega, by go_num, HEN⟩, by simp [intOf]; omega⟩
            · obtain rfl : t = i := by omega
              have hlt' : ¬ (t : Int) < (t : Int) := by omega
              have HRR := Lib.hid (HR2.out wr (HBX.out.1.trans (HEI.out.below.mono (by have := HBX.out.1.size; omega))) HNE.out N2 sbs (fun j hj => ⟨by
                have := HEI.out.row.cell hj
                rwa [if_pos hj] at this, by have := (HEI.out.le j hj).1; omega, HEI.out.sp j hj⟩))
              clear HF HEI HNE
              go_wp2
              exact HRR.out
end Go.Proofs.YtkdopjkdokgipaaGreatDoor
