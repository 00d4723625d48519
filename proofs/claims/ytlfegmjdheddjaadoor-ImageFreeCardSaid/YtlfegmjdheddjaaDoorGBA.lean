/- Texts put together: RefDc, RefPr. -/
import Derived.Test.YtlfegmjdheddjaaDoorImPrint
import Derived.Test.YtlfegmjdheddjaaDoorRefFr
import Derived.Test.YtlfegmjdheddjaaDoorRefBd
namespace Go.Proofs.YtlfegmjdheddjaaDoor
open Go.RowKit
set_option linter.unusedVariables false
set_option linter.unusedSimpArgs false
theorem run_one {P : Program} (w : World) (src dst e : TypeId) (hs : P.underlying src = some (.slice e)) (he : P.underlying e = some (.int .u8)) (hd : P.underlying dst = some .string) (b off cap : Nat) (c0 : UInt8) (x : Int) (hx : x = (c0.toNat : Int))
    (h0 : w.cell? ⟨b, off, none⟩ = some (.int .u8 x)) : (convert src dst (.slice (some ⟨b, off, none⟩) 1 cap)).run P w = .ok (.string ⟨#[c0]⟩) w := by
  subst hx
  refine run_convert_bytes_back (P := P) w src dst e ⟨b, off, none⟩ cap [c0] hs he hd (fun j hj => ?_)
  rw [addr_add]
  match j, hj with
  | 0, _ => exact h0
set_option maxRecDepth 100000 in
set_option maxHeartbeats 1000000 in
theorem r8decimal_any (x : Int) (h : 0 ≤ x ∧ x ≤ 1000) (w : World) :
    Calls Tryd.prog 69 #[.int .i64 x] w fun e w' => e = .returned (.string ⟨(Lib.itoa x).toArray⟩) ∧ Below w.heap.size w w' := by
  obtain ⟨v, rfl⟩ : ∃ v : Nat, x = (v : Int) := ⟨x.toNat, by omega⟩
  have hv : v ≤ 1000 := by omega
  have HIT := Lib.hid (show Lib.itoa (v : Int) = Lib.decDigits v from Lib.itoa_nonneg v)
  generalize Lib.itoa (v : Int) = RES at *
  go_enter Tryd.func69, Tryd.ntmps69
  go_wp2
  go_loopw [0, 3] (fun s0 s3 wr => ∃ (u : Nat) (T : List UInt8), u + T.length ≤ 1000 ∧ s0 = .int .i64 (u : Int) ∧ s3 = .string ⟨T.toArray⟩ ∧ Hid (Lib.decDigits v = Lib.decDigits u ++ T ∧ Below w.heap.size w wr)) (fun s0 _ _ => (intOf s0).toNat)
  case atStart => exact ⟨v, [], by simpa using hv, rfl, rfl, Lib.hid ⟨by simp, Below.refl _ _⟩⟩
  case round =>
    obtain ⟨u, T, hu, rfl, rfl, HX⟩ := hrel
    by_cases h10 : 10 ≤ u
    · have h10' : (10 : Int) ≤ (u : Int) := by omega
      have hmod : Int.tmod (u : Int) 10 = ((u % 10 : Nat) : Int) := by rw [Int.tmod_eq_emod_of_nonneg (by omega)]; rfl
      have hdiv : Int.tdiv (u : Int) 10 = ((u / 10 : Nat) : Int) := by rw [Int.tdiv_eq_ediv_of_nonneg (by omega)]; rfl
      have HD := Lib.hid (show Lib.decDigits v = Lib.decDigits (u / 10) ++ ([UInt8.ofNat (48 + u % 10)] ++ T) from by
        have h1 := HX.out.1
        rw [Lib.decDigits.eq_def u, dif_neg (by omega)] at h1
        rw [h1, List.append_assoc])
      have hqu : u / 10 < u := by omega
      have hq : u / 10 + (T.length + 1) ≤ 1000 := by omega
      have hd9 : u % 10 < 10 := by omega
      generalize u % 10 = d at *
      generalize u / 10 = q at *
      have hcv : (48 + (d : Int)) = ((UInt8.ofNat (48 + d)).toNat : Int) := by rw [UInt8.toNat_ofNat']; omega
      generalize UInt8.ofNat (48 + d) = c0 at *
      have hconv : (convert 112 9 (.slice (some ⟨wr.heap.size, 0, none⟩) 1 1)).run Tryd.prog (wr.alloc (.cells #[.int .u8 (48 + (d : Int))] 5)) = .ok (.string ⟨#[c0]⟩) (wr.alloc (.cells #[.int .u8 (48 + (d : Int))] 5)) :=
        run_one _ _ _ 5 Tryd.underlying112 Tryd.underlying5 Tryd.underlying9 wr.heap.size 0 1 (c0) (48 + (d : Int)) hcv (cell_of_row _ _ _ _ _ _ (heap_alloc_new wr _))
      have hadd : ∀ w : World, (Op.stringOp .add ⟨#[c0]⟩ ⟨T.toArray⟩).run Tryd.prog w = .ok (.string ⟨([c0] ++ T).toArray⟩) w := fun w => run_string_add_lists w [c0] T (by simp) (by omega)
      have HB := Lib.hid (HX.out.2.trans ((alloc_below wr (.cells #[.int .u8 (48 + (d : Int))] 5)).mono HX.out.2.size))
      clear HX hcv
      go_wp2
      go_roundw
      case rel => exact ⟨q, [c0] ++ T, by simp; omega, rfl, rfl, Lib.hid ⟨HD.out, HB.out⟩⟩
      case measure => simp [intOf]; omega
    · have h10' : ¬ (10 : Int) ≤ (u : Int) := by omega
      have HD := Lib.hid (show RES = [UInt8.ofNat (48 + u)] ++ T from by
        have h1 := HX.out.1
        rw [Lib.decDigits.eq_def u, dif_pos (by omega)] at h1
        rw [HIT.out, h1])
      have hcv : (48 + (u : Int)) = ((UInt8.ofNat (48 + u)).toNat : Int) := by rw [UInt8.toNat_ofNat']; omega
      generalize UInt8.ofNat (48 + u) = c0 at *
      have hconv : (convert 112 9 (.slice (some ⟨wr.heap.size, 0, none⟩) 1 1)).run Tryd.prog (wr.alloc (.cells #[.int .u8 (48 + (u : Int))] 5)) = .ok (.string ⟨#[c0]⟩) (wr.alloc (.cells #[.int .u8 (48 + (u : Int))] 5)) :=
        run_one _ _ _ 5 Tryd.underlying112 Tryd.underlying5 Tryd.underlying9 wr.heap.size 0 1 (c0) (48 + (u : Int)) hcv (cell_of_row _ _ _ _ _ _ (heap_alloc_new wr _))
      have hadd : ∀ w : World, (Op.stringOp .add ⟨#[c0]⟩ ⟨T.toArray⟩).run Tryd.prog w = .ok (.string ⟨([c0] ++ T).toArray⟩) w := fun w => run_string_add_lists w [c0] T (by simp) (by omega)
      have HB := Lib.hid (HX.out.2.trans ((alloc_below wr (.cells #[.int .u8 (48 + (u : Int))] 5)).mono HX.out.2.size))
      clear HX HIT hcv
      go_wp2
      go_ret
      exact ⟨by rw [HD.out]; rfl, HB.out⟩
end Go.Proofs.YtlfegmjdheddjaaDoor
namespace Go.Proofs.YtlfegmjdheddjaaDoor
open Go.RowKit
set_option linter.unusedVariables false
set_option linter.unusedSimpArgs false
theorem mod_last {i wd : Nat} (h : 1 ≤ wd) : i % wd = wd - 1 ↔ (i + 1) % wd = 0 := by
  have h1 := Nat.div_add_mod i wd
  have h2 := Nat.mod_lt i (show wd > 0 by omega)
  constructor
  · intro e
    rw [show i + 1 = wd * (i / wd + 1) by rw [Nat.mul_add, Nat.mul_one]; omega]
    exact Nat.mul_mod_right _ _
  · intro e
    by_cases h3 : i % wd + 1 < wd
    · rw [show i + 1 = wd * (i / wd) + (i % wd + 1) by omega, Nat.mul_add_mod, Nat.mod_eq_of_lt h3] at e
      omega
    · omega
/-- a cell's text, as it is until the free cells are looked through -/
def wordT (s : SV) : List UInt8 := if s.lo < s.hi then Lib.itoa s.lo ++ [45] ++ Lib.itoa s.hi else Lib.itoa s.lo
theorem cellT_word {fr : Nat → Bool} {b : Nat → SV} {i : Nat} (h : (b i).lo ≤ (b i).hi) : cellT fr b i = if fr i = true then [63] else wordT (b i) := by
  unfold cellT wordT
  by_cases h1 : fr i = true
  · rw [if_pos h1, if_pos h1]
  · rw [if_neg h1, if_neg h1]
    by_cases h2 : (b i).lo = (b i).hi
    · rw [if_pos h2, if_neg (by omega)]
    · rw [if_neg h2, if_pos (by omega)]
set_option maxRecDepth 100000 in
set_option maxHeartbeats 2000000 in
theorem r8Print_any (a : Option Addr) (n c : Nat) (ba : Option Addr) (m bc : Nat) (ss : Nat → SV) (bs : Nat → BM) (la : Option Addr) (lc : Nat) (wd : Nat) (w : World) (B : Nat) (hBw : B ≤ w.heap.size) (hS : Spans B w a n ss) (hM : Beams B w ba m bs) (hSh : Shape n ss m bs) (hL : Flds w.heap.size w la n (allF n ss m bs)) (hA : allF n ss m bs ≠ []) (hl2 : (allF n ss m bs).length ≤ 1000000) (hw1 : 1 ≤ wd ∧ wd ≤ 40) :
    Calls Tryd.prog 29 #[imageV a n c ba m bc, .slice la (allF n ss m bs).length lc, .int .i64 (wd : Int)] w fun e w' => e = .returned (.string ⟨(picT (freeC ss m bs (allF n ss m bs)) (fun i => bnd (fun f => fOf f i) (allF n ss m bs)) n wd n).toArray⟩) ∧ Below w.heap.size w w' := by
  have hn40 := hSh.n40
  have hfl : freeL (refC ss m bs (allF n ss m bs)) n = freeL (freeC ss m bs (allF n ss m bs)) n := freeL_congr n (fun k hk => refC_eq hSh hk)
  have HFR := Lib.hid (fun (W : World) (hb : Below w.heap.size w W) => show Calls Tryd.prog 27 #[imageV a n c ba m bc, .slice la (allF n ss m bs).length lc] W (fun e w' => (∃ ga gc, e = .returned (.slice ga (freeL (freeC ss m bs (allF n ss m bs)) n).length gc) ∧ Ints w'.heap.size w' ga (freeL (freeC ss m bs (allF n ss m bs)) n).length (fOf (frI (freeC ss m bs (allF n ss m bs)) n))) ∧ Below W.heap.size W w') from by
    have h := r8Free_any a n c ba m bc ss bs la lc (allF n ss m bs) W B (Nat.le_trans hBw hb.size) (hS.below (hb.mono hBw)) (hM.below (hb.mono hBw)) hSh ((hL.below hb).up hb.size) (fun g h => h) hl2
    unfold frI at h ⊢
    rw [hfl] at h
    exact h)
  have HBD := Lib.hid (fun (W : World) (hb : Below w.heap.size w W) => r8Bounds_any la n lc (allF n ss m bs) W ((hL.below hb).up hb.size) hA hl2 hn40)
  have HDB := Lib.hid (fun i (hi : i < n) => show (0 ≤ (bnd (fun f => fOf f i) (allF n ss m bs)).lo ∧ (bnd (fun f => fOf f i) (allF n ss m bs)).lo ≤ 1000 ∧ 0 ≤ (bnd (fun f => fOf f i) (allF n ss m bs)).hi ∧ (bnd (fun f => fOf f i) (allF n ss m bs)).hi ≤ 1000) ∧ (bnd (fun f => fOf f i) (allF n ss m bs)).lo ≤ (bnd (fun f => fOf f i) (allF n ss m bs)).hi from ⟨bnd_dense hSh hA hi, by
    have h := bnd_is (fun f => fOf f i) hA
    obtain ⟨f, hf, _⟩ := h.lo
    have := h.all f hf
    omega⟩)
  have HAM := Lib.hid (fun i (hi : i < n) => among_free (g := freeC ss m bs (allF n ss m bs)) hi)
  have hK := freeL_len (freeC ss m bs (allF n ss m bs)) n
  generalize hgB : (fun i => bnd (fun f => fOf f i) (allF n ss m bs)) = bn at *
  have HDB2 := Lib.hid (fun i (hi : i < n) => show (0 ≤ (bn i).lo ∧ (bn i).lo ≤ 1000 ∧ 0 ≤ (bn i).hi ∧ (bn i).hi ≤ 1000) ∧ (bn i).lo ≤ (bn i).hi from by rw [← hgB]; exact HDB.out i hi)
  clear HDB hgB hS hM hSh hL hA hfl
  generalize (freeL (freeC ss m bs (allF n ss m bs)) n).length = K at *
  generalize fOf (frI (freeC ss m bs (allF n ss m bs)) n) = FF at *
  generalize freeC ss m bs (allF n ss m bs) = fr at *
  generalize (allF n ss m bs).length = ll at *
  generalize hres : (fun (e : Ending) (w' : World) => e = Ending.returned (.string ⟨(picT fr bn n wd n).toArray⟩) ∧ Below w.heap.size w w') = RES
  have HR := Lib.hid (fun (w' : World) (hb : Below w.heap.size w w') => show RES (.returned (.string ⟨(picT fr bn n wd n).toArray⟩)) w' from hres ▸ ⟨rfl, hb⟩)
  clear hres
  go_enter Tryd.func29, Tryd.ntmps29
  go_upto_region 1 with (fail)
  have HL := Lib.hid (show LI a n c ba m bc w (w.alloc (.cells #[.slice a n c, .slice ba m bc] 25)) from LI_start)
  generalize World.alloc w _ = V at *
  obtain ⟨l0, l1, l2, l3⟩ := HL.out
  go_upto_region 4 with (first | (go_at_call 27; refine (HFR.out _ l3).mono ?_; rintro e w1 ⟨⟨ga, gc, rfl, hG⟩, hb1⟩; have HG := Lib.hid hG; have HB1 := Lib.hid hb1; clear hG hb1) | (go_at_call 35; refine (HBD.out _ (l3.trans (HB1.out.mono l3.size))).mono ?_; rintro e w2 ⟨⟨ob, rfl, hO⟩, hb2⟩; have HO := Lib.hid hO; have HB2 := Lib.hid hb2; clear hO hb2))
  have HG2 := Lib.hid ((HG.out.below HB2.out).up HB2.out.size)
  have HBW := Lib.hid (l3.trans ((HB1.out.trans (HB2.out.mono HB1.out.size)).mono l3.size))
  have hob := HO.out.lt
  clear l0 l1 l2 l3 HL HG HB1 HB2 HFR HBD
  go_loopw [9, 10] (fun s9 t wr => ∃ i : Nat, i ≤ n ∧ t = .int .i64 (i : Int) ∧ s9 = .string ⟨(picT fr bn n wd i).toArray⟩ ∧ Hid (Below w2.heap.size w2 wr)) (fun _ t _ => n - (intOf t).toNat)
  case atStart => exact ⟨0, Nat.zero_le _, rfl, rfl, Lib.hid (Below.refl _ _)⟩
  case round =>
    obtain ⟨i, hi, rfl, rfl, HX⟩ := hrel
    by_cases hlt : i < n
    · have hlt' : (i : Int) < (n : Int) := by omega
      obtain ⟨x0, x1⟩ := (HO.out.step HX.out).cell hlt
      have hzr := HX.out.size
      have hoz : ob < wr.heap.size := by omega
      have HDI := HDB2.out i hlt
      have hpl := picT_len (fr := fr) (b := bn) (n := n) (wide := wd) i (fun j hj => (HDB2.out j (by omega)).1)
      have HPS := Lib.hid (show picT fr bn n wd (i + 1) = picT fr bn n wd i ++ cellT fr bn i ++ sepT n wd i from rfl)
      have HCT := Lib.hid (cellT_word (fr := fr) HDI.2)
      have hcl := cellT_len (fr := fr) HDI.1
      have HWT := Lib.hid (show wordT (bn i) = if (bn i).lo < (bn i).hi then Lib.itoa (bn i).lo ++ [45] ++ Lib.itoa (bn i).hi else Lib.itoa (bn i).lo from rfl)
      have HAI := Lib.hid (HAM.out i hlt)
      generalize picT fr bn n wd i = PT at *
      generalize cellT fr bn i = CT at *
      generalize wordT (bn i) = WT at *
      generalize (bn i).lo = lo at *
      generalize (bn i).hi = hi2 at *
      generalize fr i = fri at *
      have hl1 := itoa_short (x := lo) ⟨by omega, by omega⟩
      have hl2' := itoa_short (x := hi2) ⟨by omega, by omega⟩
      have HDC := Lib.hid (fun (x : Int) (hx : 0 ≤ x ∧ x ≤ 1000) (W : World) => r8decimal_any x hx W)
      go_upto_region 7 with (go_at_call 69; refine (HDC.out lo ⟨by omega, by omega⟩ _).mono ?_; rintro e w3 ⟨rfl, hb3⟩)
      have y0 := ((bcell hb3).1 ob _ hoz).trans x0
      have y1 := ((bcell hb3).1 ob _ hoz).trans x1
      have hoz3 := Nat.lt_of_lt_of_le hoz hb3.size
      have HB3 := Lib.hid (HX.out.trans (hb3.mono hzr))
      clear x0 x1 hoz hb3 HX hzr
      (refine wp_region_calm (w3.heap.size) (by kernel_rfl) (by kernel_rfl) ?_; (repeat (first | go_big_quiet_step (fail) | quiet_step (fail))); refine wpQuiet_nil ?_; intro _ hw'; obtain ⟨xq, hw''⟩ := hw'; subst hw'')
      have HBq := Lib.hid (HB3.out.trans ((Calm.below xq).mono HB3.out.size))
      have z0 := ((bcell (Calm.below xq)).1 ob _ hoz3).trans y0
      have z1 := ((bcell (Calm.below xq)).1 ob _ hoz3).trans y1
      have hoz4 := Nat.lt_of_lt_of_le hoz3 (Calm.below xq).size
      clear y0 y1 hoz3 HB3
      generalize Calm.val xq = w4 at *
      go_upto_if 40 with (fail)
      go_cut [11] from 40 to 49 (fun s11 wx => s11 = .string ⟨WT.toArray⟩ ∧ Hid (Below w2.heap.size w2 wx))
      case first =>
        by_cases hh : lo < hi2
        · rw [if_pos hh] at HWT
          have ha1 : ∀ w : World, (Op.stringOp .add ⟨(Lib.itoa lo).toArray⟩ ⟨#[45]⟩).run Tryd.prog w = .ok (.string ⟨(Lib.itoa lo ++ [45]).toArray⟩) w := fun w => run_string_add_lists w (Lib.itoa lo) [45] (by omega) (by decide)
          have ha2 : ∀ w : World, (Op.stringOp .add ⟨(Lib.itoa lo ++ [45]).toArray⟩ ⟨(Lib.itoa hi2).toArray⟩).run Tryd.prog w = .ok (.string ⟨(Lib.itoa lo ++ [45] ++ Lib.itoa hi2).toArray⟩) w := fun w => run_string_add_lists w (Lib.itoa lo ++ [45]) (Lib.itoa hi2) (by rw [List.length_append, List.length_singleton]; omega) (by omega)
          go_upto_region 8 with (fail)
          go_wp2_with (go_at_call 69; refine (HDC.out hi2 ⟨by omega, by omega⟩ _).mono ?_; rintro e w5 ⟨rfl, hb5⟩)
          go_meet
          exact ⟨by rw [HWT.out, List.append_assoc]; rfl, Lib.hid (HBq.out.trans (hb5.mono HBq.out.size))⟩
        · rw [if_neg hh] at HWT
          go_wp2
          go_meet
          exact ⟨by rw [HWT.out], HBq⟩
      case rest =>
        clear z0 z1 hoz4 HBq HWT
        obtain ⟨rfl, HC⟩ := hcut
        have A0 := Lib.hid (show among FF 0 (i : Int) = false from rfl)
        go_wp2
        go_loopw [11, 12] (fun s11 t wx => ∃ k : Nat, k ≤ K ∧ t = .int .i64 (k : Int) ∧ s11 = .string ⟨(if among FF k (i : Int) = true then [63] else WT).toArray⟩ ∧ Hid (Below w2.heap.size w2 wx)) (fun _ t _ => K - (intOf t).toNat)
        case atStart => exact ⟨0, Nat.zero_le _, rfl, by rw [A0.out]; rfl, HC⟩
        case round =>
          clear HC A0
          obtain ⟨k, hk, rfl, rfl, HC⟩ := hrel
          have HAS := Lib.hid (among_succ (f := FF) (k := k) (c := (i : Int)))
          by_cases hkl : k < K
          · have hkl' : (k : Int) < (K : Int) := by omega
            obtain ⟨gb, go, hga, hgB, g0⟩ := (HG2.out.below HC.out).get hkl
            subst hga
            have hgz : gb < wr.heap.size := Nat.lt_of_lt_of_le hgB HC.out.size
            obtain ⟨AK, hAK⟩ : ∃ AK, AK = among FF k (i : Int) := ⟨_, rfl⟩
            rw [← hAK] at HAS ⊢
            clear hAK
            by_cases he : FF k = (i : Int)
            · rw [he] at g0
              have hee : ((i : Int) == (i : Int)) = true := by simp
              rw [he, hee, Bool.or_true] at HAS
              clear he
              go_wp2
              go_roundw
              case rel => exact ⟨k + 1, by omega, by go_num, by rw [HAS.out]; rfl, HC⟩
              case measure => simp [intOf]; omega
            · have hee : (FF k == (i : Int)) = false := by rw [beq_eq_false_iff_ne]; exact he
              rw [hee, Bool.or_false] at HAS
              clear he
              go_wp2
              go_roundw
              case rel => exact ⟨k + 1, by omega, by go_num, by rw [HAS.out], HC⟩
              case measure => simp [intOf]; omega
          · obtain rfl : k = K := by omega
            have hkl' : ¬ (k : Int) < (k : Int) := by omega
            rw [HAI.out, ← HCT.out]
            have HSP := Lib.hid (show sepT n wd i = if (i + 1) % wd = 0 ∨ i + 1 = n then [10] else [32] from rfl)
            have HML := Lib.hid (mod_last (i := i) hw1.1)
            generalize sepT n wd i = SP at *
            have hmod : Int.tmod (i : Int) (wd : Int) = ((i % wd : Nat) : Int) := by rw [Int.tmod_eq_emod_of_nonneg (by omega)]; rfl
            have ha1 : ∀ w : World, (Op.stringOp .add ⟨PT.toArray⟩ ⟨CT.toArray⟩).run Tryd.prog w = .ok (.string ⟨(PT ++ CT).toArray⟩) w := fun w => run_string_add_lists w PT CT (by omega) (by omega)
            have ha2 : ∀ (x : UInt8) (w : World), (Op.stringOp .add ⟨(PT ++ CT).toArray⟩ ⟨#[x]⟩).run Tryd.prog w = .ok (.string ⟨(PT ++ CT ++ [x]).toArray⟩) w := fun x w => run_string_add_lists w (PT ++ CT) [x] (by rw [List.length_append]; omega) (by simp)
            have hwd0 : ((wd : Int) == 0) = false := by rw [beq_eq_false_iff_ne]; omega
            generalize hmm : i % wd = md at *
            clear hmm
            by_cases h1 : md = wd - 1
            · rw [if_pos (Or.inl (HML.out.1 h1))] at HSP
              have h1' : ((md : Int) == (wd : Int) - 1) = true := by rw [beq_iff_eq]; omega
              clear HML h1
              go_wp2
              go_roundw
              case rel => exact ⟨i + 1, by omega, by go_num, by rw [HPS.out, HSP.out, List.append_assoc], HC⟩
              case measure => simp [intOf]; omega
            · have h1' : ((md : Int) == (wd : Int) - 1) = false := by rw [beq_eq_false_iff_ne]; omega
              by_cases h2 : i + 1 = n
              · rw [if_pos (Or.inr h2)] at HSP
                have h2' : ((i : Int) == (n : Int) - 1) = true := by rw [beq_iff_eq]; omega
                clear HML h1 h2
                go_wp2
                go_roundw
                case rel => exact ⟨i + 1, by omega, by go_num, by rw [HPS.out, HSP.out, List.append_assoc], HC⟩
                case measure => simp [intOf]; omega
              · rw [if_neg (by rintro (h | h); exact h1 (HML.out.2 h); exact h2 h)] at HSP
                have h2' : ((i : Int) == (n : Int) - 1) = false := by rw [beq_eq_false_iff_ne]; omega
                clear HML h1 h2
                go_wp2
                go_roundw
                case rel => exact ⟨i + 1, by omega, by go_num, by rw [HPS.out, HSP.out, List.append_assoc], HC⟩
                case measure => simp [intOf]; omega
    · obtain rfl : i = n := by omega
      have hlt' : ¬ (i : Int) < (i : Int) := by omega
      go_wp2
      exact HR.out _ (HBW.out.trans (HX.out.mono HBW.out.size))
end Go.Proofs.YtlfegmjdheddjaaDoor
