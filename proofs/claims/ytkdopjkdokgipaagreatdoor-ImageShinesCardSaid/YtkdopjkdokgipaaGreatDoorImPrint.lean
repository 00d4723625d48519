/- The walk of image.Print. -/
import Derived.Test.YtkdopjkdokgipaaGreatDoorGlA
import Derived.Test.YtkdopjkdokgipaaGreatDoorImFree
import Derived.Test.YtkdopjkdokgipaaGreatDoorGmA
import Derived.Test.YtkdopjkdokgipaaGreatDoorGaA
import Derived.Laws.Concat
import Derived.Deep.CutBlock
import Derived.Lib.ItoaLen
import Derived.Lib.AppendIntMem
namespace Go.Proofs.YtkdopjkdokgipaaGreatDoor
open Go.RowKit
set_option linter.unusedVariables false
set_option linter.unusedSimpArgs false
/-- a cell of the picture -/
def cellT (fr : Nat → Bool) (b : Nat → SV) (i : Nat) : List UInt8 := if fr i = true then [63] else if (b i).lo = (b i).hi then Lib.itoa (b i).lo else Lib.itoa (b i).lo ++ [45] ++ Lib.itoa (b i).hi
def sepT (n : Nat) (wide : Nat) (i : Nat) : List UInt8 := if (i + 1) % wide = 0 ∨ i + 1 = n then [10] else [32]
/-- the picture of the first cells -/
def picT (fr : Nat → Bool) (b : Nat → SV) (n wide : Nat) : Nat → List UInt8
  | 0 => []
  | k + 1 => picT fr b n wide k ++ cellT fr b k ++ sepT n wide k
theorem itoa_short {x : Int} (h : 0 ≤ x ∧ x ≤ 1000) : (Lib.itoa x).length ≤ 21 := Lib.itoa_length_le x (by omega) (by omega)
theorem cellT_len {fr : Nat → Bool} {b : Nat → SV} {i : Nat} (h : 0 ≤ (b i).lo ∧ (b i).lo ≤ 1000 ∧ 0 ≤ (b i).hi ∧ (b i).hi ≤ 1000) : (cellT fr b i).length ≤ 50 := by
  have h1 := itoa_short (x := (b i).lo) ⟨h.1, h.2.1⟩
  have h2 := itoa_short (x := (b i).hi) ⟨h.2.2.1, h.2.2.2⟩
  unfold cellT
  split
  · simp
  · split
    · omega
    · simp; omega
theorem sepT_len {n wide i : Nat} : (sepT n wide i).length = 1 := by unfold sepT; split <;> rfl
theorem picT_len {fr : Nat → Bool} {b : Nat → SV} {n wide : Nat} : ∀ k, (∀ i, i < k → 0 ≤ (b i).lo ∧ (b i).lo ≤ 1000 ∧ 0 ≤ (b i).hi ∧ (b i).hi ≤ 1000) → (picT fr b n wide k).length ≤ 51 * k
  | 0, _ => by simp [picT]
  | k + 1, h => by
    have h1 := picT_len (fr := fr) (n := n) (wide := wide) k (fun i hi => h i (by omega))
    have h2 := cellT_len (fr := fr) (h k (by omega))
    rw [picT, List.length_append, List.length_append, sepT_len]
    omega
/-- bounds of fields are densities -/
theorem bnd_dense {n m : Nat} {ss : Nat → SV} {bs : Nat → BM} (hS : Shape n ss m bs) (h : allF n ss m bs ≠ []) {i : Nat} (hi : i < n) : 0 ≤ (bnd (fun f => fOf f i) (allF n ss m bs)).lo ∧ (bnd (fun f => fOf f i) (allF n ss m bs)).lo ≤ 1000 ∧ 0 ≤ (bnd (fun f => fOf f i) (allF n ss m bs)).hi ∧ (bnd (fun f => fOf f i) (allF n ss m bs)).hi ≤ 1000 := by
  have hb := bnd_is (fun f => fOf f i) h
  have hsp := hS.span i hi
  have key : ∀ f ∈ allF n ss m bs, 0 ≤ fOf f i ∧ fOf f i ≤ 1000 := fun f hf => by
    have := (allF_mem.1 hf).2.2 i hi
    omega
  obtain ⟨f1, m1, e1⟩ := hb.lo
  obtain ⟨f2, m2, e2⟩ := hb.hi
  have := key f1 m1
  have := key f2 m2
  omega
set_option maxRecDepth 100000 in
theorem itoa_any (x : Int) (h : 0 ≤ x ∧ x ≤ 1000) (w : World) (htab : Lib.TabIs Tryz.prog w "internal/strconv.uint64pow10" .u64 Lib.pow10Tab) :
    Calls Tryz.prog 60 #[.int .i64 x] w fun e w' => e = .returned (.string ⟨(Lib.itoa x).toArray⟩) ∧ Below w.heap.size w w' :=
  (Tryz.strconv_Itoa x (by omega) (by omega) w htab).mono fun e w' h => by
    obtain ⟨rfl, k, os, rfl⟩ := h
    exact ⟨rfl, Lib.below_grow _ _ (Nat.le_refl _) _ _⟩
theorem builder_step {T e : TypeId} {B b : Nat} {bs : List Value} {w w' : World} (h : Lib.IsBuilder T e B b bs w) (hb : Below w.heap.size w w') : Lib.IsBuilder T e B b bs w' := by
  have key : ∀ p, Lib.BuilderAt T e B b p bs w → Lib.BuilderAt T e B b p bs w' := fun p h => by
    have hlt := h.lt
    obtain ⟨h1, v, h2, h3, h4⟩ := h
    exact ⟨h1, v, (hb.block b hlt).trans h2, own_below h3 hb, h4⟩
  exact h.elim (fun h => .inl (key _ h)) (fun h => .inr (key _ h))
theorem len_ok {bs : List Value} {s : ByteArray} (h : bs.length ≤ 3000) (hs : s.size ≤ 60) : bs.length + s.size ≤ 140737488355328 := by omega
theorem ba_size (l : List UInt8) : ByteArray.size ⟨l.toArray⟩ = l.length := by simp [ByteArray.size]
/-- what Print hands back -/
def PrintRes (n : Nat) (ss : Nat → SV) (m : Nat) (bs : Nat → BM) (wide : Int) (w : World) (e : Ending) (w' : World) : Prop :=
  Below w.heap.size w w' ∧
  (if checkF n ss m bs (inB wide 1 40) = 0 then if allF n ss m bs = [] then e = .returned (.tuple #[.string ⟨#[]⟩, .int .i64 5])
    else e = .returned (.tuple #[.string ⟨(picT (freeC ss m bs (allF n ss m bs)) (fun i => bnd (fun f => fOf f i) (allF n ss m bs)) n wide.toNat n).toArray⟩, .int .i64 0])
  else e = .returned (.tuple #[.string ⟨#[]⟩, .int .i64 (checkF n ss m bs (inB wide 1 40))]))
set_option maxRecDepth 100000 in
set_option maxHeartbeats 1000000 in
theorem Print_bad (a : Option Addr) (n c : Nat) (ba : Option Addr) (m bc : Nat) (ss : Nat → SV) (bs : Nat → BM) (wide : Int) (w : World) (B : Nat) (hBw : B ≤ w.heap.size) (hS : Spans B w a n ss) (hM : Beams B w ba m bs) (hC : checkF n ss m bs (inB wide 1 40) ≠ 0) :
    Calls Tryz.prog 23 #[imageV a n c ba m bc, .int .i64 wide] w (PrintRes n ss m bs wide w) := by
  have HCK := Lib.hid (fun (W : World) (hb : Below w.heap.size w W) => checked_any a n c ba m bc ss bs (inB wide 1 40) W B (by have := hb.size; omega) (hS.below (hb.mono hBw)) (hM.below (hb.mono hBw)))
  have HR := Lib.hid (fun (w' : World) (hb : Below w.heap.size w w') => show PrintRes n ss m bs wide w (.returned (.tuple #[.string ⟨#[]⟩, .int .i64 (checkF n ss m bs (inB wide 1 40))])) w' from ⟨hb, by rw [if_neg hC]⟩)
  generalize hE : checkF n ss m bs (inB wide 1 40) = E at *
  have h1 : (E != 0) = true := by simpa using hC
  clear hS hM hC hE
  generalize PrintRes n ss m bs wide w = RES at *
  go_enter Tryz.func23, Tryz.ntmps23; go_upto_region 1 with (fail); have HLI := Lib.hid (show LI a n c ba m bc w (w.alloc (.cells #[.slice a n c, .slice ba m bc] 50)) from LI_start); generalize World.alloc w _ = V at *; obtain ⟨l0, l1, l2, l3⟩ := HLI.out; (refine wp_region_calm (V.heap.size) (by kernel_rfl) (by kernel_rfl) ?_; (repeat (first | go_big_quiet_step ((first | (go_at_call 49; exact Calls.calm_same (in_any _ _ _ _)) | (go_at_call 50; exact Calls.calm_of (Nat.le_refl _) (HCK.out _ (l3.trans ((Calm.below _).mono (by omega))))))) | quiet_step ((first | (go_at_call 49; exact Calls.calm_same (in_any _ _ _ _)) | (go_at_call 50; exact Calls.calm_of (Nat.le_refl _) (HCK.out _ (l3.trans ((Calm.below _).mono (by omega))))))))); refine wpQuiet_nil ?_; intro _ hw'; obtain ⟨xq, hw''⟩ := hw'; subst hw''); have HLI1 := Lib.hid (LI_step HLI.out (Calm.below xq)); clear l0 l1 l2 l3; obtain ⟨l0, l1, l2, l3⟩ := HLI1.out; generalize Calm.val xq = w1 at *
  go_wp2
  exact HR.out _ l3
set_option maxRecDepth 100000 in
set_option maxHeartbeats 1000000 in
theorem Print_none (a : Option Addr) (n c : Nat) (ba : Option Addr) (m bc : Nat) (ss : Nat → SV) (bs : Nat → BM) (wide : Int) (w : World) (B : Nat) (hBw : B ≤ w.heap.size) (hS : Spans B w a n ss) (hM : Beams B w ba m bs) (hC : checkF n ss m bs (inB wide 1 40) = 0) (hN : checkN n ss m bs = 0) (hA : allF n ss m bs = []) :
    Calls Tryz.prog 23 #[imageV a n c ba m bc, .int .i64 wide] w (PrintRes n ss m bs wide w) := by
  have HCK := Lib.hid (fun (W : World) (hb : Below w.heap.size w W) => checked_any a n c ba m bc ss bs (inB wide 1 40) W B (by have := hb.size; omega) (hS.below (hb.mono hBw)) (hM.below (hb.mono hBw)))
  have HBD := Lib.hid (fun (W : World) (hb : Below w.heap.size w W) => (Bounds_any a n c ba m bc ss bs W B (by have := hb.size; omega) (hS.below (hb.mono hBw)) (hM.below (hb.mono hBw))).mono (R' := fun e w' => e = .returned (.tuple #[.slice none 0 0, .int .i64 5]) ∧ Below W.heap.size W w') fun e w' h => by
    obtain ⟨h1, h2⟩ := h
    rw [if_pos hN, if_pos hA] at h2
    exact ⟨h2, h1⟩)
  have HR := Lib.hid (fun (w' : World) (hb : Below w.heap.size w w') => show PrintRes n ss m bs wide w (.returned (.tuple #[.string ⟨#[]⟩, .int .i64 5])) w' from ⟨hb, by rw [if_pos hC, if_pos hA]⟩)
  rw [hC] at HCK
  clear hS hM hC hN hA
  generalize PrintRes n ss m bs wide w = RES at *
  go_enter Tryz.func23, Tryz.ntmps23; go_upto_region 1 with (fail); have HLI := Lib.hid (show LI a n c ba m bc w (w.alloc (.cells #[.slice a n c, .slice ba m bc] 50)) from LI_start); generalize World.alloc w _ = V at *; obtain ⟨l0, l1, l2, l3⟩ := HLI.out; (refine wp_region_calm (V.heap.size) (by kernel_rfl) (by kernel_rfl) ?_; (repeat (first | go_big_quiet_step ((first | (go_at_call 49; exact Calls.calm_same (in_any _ _ _ _)) | (go_at_call 50; exact Calls.calm_of (Nat.le_refl _) (HCK.out _ (l3.trans ((Calm.below _).mono (by omega))))))) | quiet_step ((first | (go_at_call 49; exact Calls.calm_same (in_any _ _ _ _)) | (go_at_call 50; exact Calls.calm_of (Nat.le_refl _) (HCK.out _ (l3.trans ((Calm.below _).mono (by omega))))))))); refine wpQuiet_nil ?_; intro _ hw'; obtain ⟨xq, hw''⟩ := hw'; subst hw''); have HLI1 := Lib.hid (LI_step HLI.out (Calm.below xq)); clear l0 l1 l2 l3; obtain ⟨l0, l1, l2, l3⟩ := HLI1.out; generalize Calm.val xq = w1 at *
  go_wp2_with (go_at_call 22; refine (HBD.out _ l3).mono ?_; rintro e w2 ⟨rfl, hb2⟩)
  exact HR.out _ (l3.trans (hb2.mono (by omega)))
set_option maxRecDepth 100000 in
set_option maxHeartbeats 2000000 in
theorem Print_ok (a : Option Addr) (n c : Nat) (ba : Option Addr) (m bc : Nat) (ss : Nat → SV) (bs : Nat → BM) (wide : Int) (w : World) (B : Nat) (hBw : B ≤ w.heap.size) (hS : Spans B w a n ss) (hM : Beams B w ba m bs) (hC : checkF n ss m bs (inB wide 1 40) = 0) (hN : checkN n ss m bs = 0) (hw1 : 1 ≤ wide ∧ wide ≤ 40) (hA : allF n ss m bs ≠ []) (htab : Lib.TabIs Tryz.prog w "internal/strconv.uint64pow10" .u64 Lib.pow10Tab) :
    Calls Tryz.prog 23 #[imageV a n c ba m bc, .int .i64 wide] w (PrintRes n ss m bs wide w) := by
  have hSh := checkN_shape hN
  have hn40 := hSh.n40
  have HCK := Lib.hid (fun (W : World) (hb : Below w.heap.size w W) => checked_any a n c ba m bc ss bs (inB wide 1 40) W B (by have := hb.size; omega) (hS.below (hb.mono hBw)) (hM.below (hb.mono hBw)))
  have HBD := Lib.hid (fun (W : World) (hb : Below w.heap.size w W) => (Bounds_any a n c ba m bc ss bs W B (by have := hb.size; omega) (hS.below (hb.mono hBw)) (hM.below (hb.mono hBw))).mono (R' := fun e w' => Below W.heap.size W w' ∧ ∃ ob, e = .returned (.tuple #[.slice (some ⟨ob, 0, none⟩) n n, .int .i64 0]) ∧ W.heap.size ≤ ob ∧ SR 28 w' ob n (fun i => bnd (fun f => fOf f i) (allF n ss m bs))) fun e w' h => by
    obtain ⟨h1, h2⟩ := h
    rw [if_pos hN, if_neg hA] at h2
    exact ⟨h1, h2⟩)
  have HFR := Lib.hid (fun (W : World) (hb : Below w.heap.size w W) => free_any a n c ba m bc ss bs W B (by have := hb.size; omega) (hS.below (hb.mono hBw)) (hM.below (hb.mono hBw)) hSh)
  have HDB := Lib.hid (fun i (hi : i < n) => bnd_dense hSh hA hi)
  have HTB := Lib.hid (Lib.tabBelow_of_tabIs htab)
  have HR := Lib.hid (fun (w' : World) (hb : Below w.heap.size w w') => show PrintRes n ss m bs wide w (.returned (.tuple #[.string ⟨(picT (freeC ss m bs (allF n ss m bs)) (fun i => bnd (fun f => fOf f i) (allF n ss m bs)) n wide.toNat n).toArray⟩, .int .i64 0])) w' from ⟨hb, by rw [if_pos hC, if_neg hA]⟩)
  rw [hC] at HCK
  clear hS hM hC hN htab hSh
  generalize PrintRes n ss m bs wide w = RES at *
  unfold FreeRes at HFR
  have hAe : (allF n ss m bs).isEmpty = false := by cases h : allF n ss m bs; exact absurd h hA; rfl
  generalize hgB : (fun i => bnd (fun f => fOf f i) (allF n ss m bs)) = bn at *
  have HDB2 := Lib.hid (fun i (hi : i < n) => show 0 ≤ (bn i).lo ∧ (bn i).lo ≤ 1000 ∧ 0 ≤ (bn i).hi ∧ (bn i).hi ≤ 1000 from by rw [← hgB]; exact HDB.out i hi)
  clear HDB hgB hA
  rw [hAe] at HFR
  clear hAe
  generalize hgF : freeC ss m bs (allF n ss m bs) = fr at *
  clear hgF
  have hlL := freeL_len fr n
  have HFL := Lib.hid (fun i (hi : i < n) => show (freeL fr n).contains i = fr i from by
    rw [Bool.eq_iff_iff, List.contains_iff_mem]
    simp [freeL, hi])
  generalize freeL fr n = L at *
  obtain ⟨wd, rfl⟩ : ∃ wd : Nat, wide = (wd : Int) := ⟨wide.toNat, by omega⟩
  rw [Int.toNat_natCast] at HR
  go_enter Tryz.func23, Tryz.ntmps23; go_upto_region 1 with (fail); have HLI := Lib.hid (show LI a n c ba m bc w (w.alloc (.cells #[.slice a n c, .slice ba m bc] 50)) from LI_start); generalize World.alloc w _ = V at *; obtain ⟨l0, l1, l2, l3⟩ := HLI.out; (refine wp_region_calm (V.heap.size) (by kernel_rfl) (by kernel_rfl) ?_; (repeat (first | go_big_quiet_step ((first | (go_at_call 49; exact Calls.calm_same (in_any _ _ _ _)) | (go_at_call 50; exact Calls.calm_of (Nat.le_refl _) (HCK.out _ (l3.trans ((Calm.below _).mono (by omega))))))) | quiet_step ((first | (go_at_call 49; exact Calls.calm_same (in_any _ _ _ _)) | (go_at_call 50; exact Calls.calm_of (Nat.le_refl _) (HCK.out _ (l3.trans ((Calm.below _).mono (by omega))))))))); refine wpQuiet_nil ?_; intro _ hw'; obtain ⟨xq, hw''⟩ := hw'; subst hw''); have HLI1 := Lib.hid (LI_step HLI.out (Calm.below xq)); clear l0 l1 l2 l3; obtain ⟨l0, l1, l2, l3⟩ := HLI1.out; generalize Calm.val xq = w1 at *
  go_upto_region 7 with (go_at_call 22; refine (HBD.out _ l3).mono ?_; rintro e w2 ⟨hb2, ob, rfl, hob, hsr⟩; have HB2 := Lib.hid hb2; have HSR := Lib.hid hsr; clear hb2 hsr)
  have HLI2 := Lib.hid (LI_step HLI1.out HB2.out)
  clear l0 l1 l2 l3
  obtain ⟨l0, l1, l2, l3⟩ := HLI2.out
  go_upto_region 8 with (go_at_call 57; refine (HFR.out _ l3).mono ?_; rintro e w3 ⟨hb3, fa, fc, rfl, how⟩; have HB3 := Lib.hid hb3; have HOW := Lib.hid how; clear hb3 how)
  have HSR3 := Lib.hid (HSR.out.step HB3.out)
  have HBW := Lib.hid (l3.trans (HB3.out.mono (Nat.le_of_lt l2)))
  clear l0 l1 l2 l3 HSR HLI1 HLI2 HLI HB2 HB3 HBD HFR HCK
  go_upto_region 9 with (fail)
  have HI0 := Lib.hid (Lib.fresh_isBuilder 114 5 w3)
  have HB4 := Lib.hid (alloc_below w3 (.cells #[.pointer none, .slice none 0 0] 114))
  have HOB := Lib.hid HSR3.out.lt
  generalize World.alloc w3 _ = V4 at *
  obtain ⟨kb, hkb⟩ : ∃ kb, w3.heap.size = kb := ⟨_, rfl⟩
  rw [hkb] at HI0 HB4 HOB ⊢
  have HKB := Lib.hid hkb
  clear hkb
  go_wp2
  go_loopw [36] (fun t wr => ∃ i : Nat, i ≤ n ∧ t = .int .i64 (i : Int) ∧ Hid (Lib.IsBuilder 114 5 kb kb (Lib.byteCells (picT fr bn n wd i)) wr ∧ Below kb w3 wr)) (fun t _ => n - (intOf t).toNat)
  case atStart => exact ⟨0, Nat.zero_le _, rfl, Lib.hid ⟨HI0.out, HB4.out⟩⟩
  case round =>
    clear HI0 HB4
    obtain ⟨i, hi, rfl, HX⟩ := hrel
    have hz : kb ≤ wr.heap.size := by have := HX.out.2.size; have := HKB.out; omega
    by_cases hlt : i < n
    · have hlt' : (i : Int) < (n : Int) := by omega
      obtain ⟨x0, x1⟩ := (HSR3.out.block (HX.out.2.block ob HOB.out)).cell hlt
      have hoz : ob < wr.heap.size := by have := HOB.out; omega
      have HDI := HDB2.out i hlt
      have HFI := Lib.hid (HFL.out i hlt)
      have hpl := picT_len (fr := fr) (b := bn) (n := n) (wide := wd) i (fun j hj => HDB2.out j (by omega))
      have HPS := Lib.hid (show picT fr bn n wd (i + 1) = picT fr bn n wd i ++ cellT fr bn i ++ sepT n wd i from rfl)
      have HCT := Lib.hid (show cellT fr bn i = if fr i = true then [63] else if (bn i).lo = (bn i).hi then Lib.itoa (bn i).lo else Lib.itoa (bn i).lo ++ [45] ++ Lib.itoa (bn i).hi from rfl)
      have hcl := cellT_len (fr := fr) HDI
      generalize picT fr bn n wd i = PT at *
      generalize cellT fr bn i = CT at *
      generalize (bn i).lo = lo at *
      generalize (bn i).hi = hi2 at *
      generalize fr i = fri at *
      go_upto_block 2 with (fail)
      have HX2 := Lib.hid (And.intro (builder_step HX.out.1 (alloc_below wr (.cells #[.int .i64 lo, .int .i64 hi2] 28))) (HX.out.2.trans ((alloc_below wr (.cells #[.int .i64 lo, .int .i64 hi2] 28)).mono hz)))
      have hN := heap_alloc_new wr (.cells #[.int .i64 lo, .int .i64 hi2] 28)
      clear HX x0 x1 hoz
      generalize World.alloc wr _ = V5 at *
      generalize wr.heap.size = cb at *
      have d0 : V5.cell? ⟨cb, 0, none⟩ = some (.int .i64 lo) := cell_of_row _ _ _ _ _ _ hN
      have d1 : V5.cell? ⟨cb, 1, none⟩ = some (.int .i64 hi2) := cell_of_row _ _ _ _ _ _ hN
      have hzc : cb < V5.heap.size := (Array.getElem?_eq_some_iff.1 hN).1
      have hz5 : kb ≤ V5.heap.size := by omega
      have HOW5 := Lib.hid (own_below HOW.out (show Below w3.heap.size w3 V5 by rw [HKB.out]; exact HX2.out.2))
      have HCN := Lib.hid (contains_any fa L fc i V5 _ HOW5.out (by omega) (by omega))
      rw [HFI.out] at HCN
      have HTB5 := Lib.hid (HTB.out.on (HBW.out.trans (HX2.out.2.mono (by have := HBW.out.size; have := HKB.out; omega))))
      clear HOW5 hN
      go_cut [36] from 81 (fun s36 wx => s36 = .int .i64 (i : Int) ∧ Hid (Lib.IsBuilder 114 5 kb kb (Lib.byteCells (PT ++ CT)) wx ∧ Below kb w3 wx))
      case first =>
        have hPL : (Lib.byteCells PT).length ≤ 3000 := by rw [Lib.byteCells_length]; omega
        cases fri
        · rw [if_neg (by simp)] at HCT
          have hl1 := itoa_short (x := lo) ⟨by omega, by omega⟩
          by_cases he : lo = hi2
          · subst he
            rw [if_pos rfl] at HCT
            go_wp2_with (first | (go_at_call 58; refine HCN.out.mono ?_; rintro e w' ⟨rfl, rfl⟩) | (go_at_call 60; refine (itoa_any lo ⟨by omega, by omega⟩ V5 HTB5.out.here).mono ?_; rintro e w6 ⟨rfl, hb6⟩; have HX6 := Lib.hid (builder_step HX2.out.1 hb6); have HB6 := Lib.hid (HX2.out.2.trans (hb6.mono hz5)); have hz6 := hb6.size) | (go_at_call 59; refine (writeString_any kb kb (Lib.byteCells PT) _ w6 HX6.out (len_ok hPL (by rw [ba_size]; omega)) (by omega)).mono ?_; rintro e w7 ⟨rfl, h7, hb7⟩))
            go_meet
            exact ⟨rfl, Lib.hid ⟨by rw [HCT.out, Lib.byteCells_append]; exact h7, HB6.out.trans hb7⟩⟩
          · rw [if_neg he] at HCT
            have hl2 := itoa_short (x := hi2) ⟨by omega, by omega⟩
            have he' : (lo == hi2) = false := by rw [beq_eq_false_iff_ne]; exact he
            have hzw : w.heap.size ≤ V5.heap.size := by have := HBW.out.size; have := HKB.out; omega
            have HIT := Lib.hid (fun (x : Int) (hx : 0 ≤ x ∧ x ≤ 1000) (W : World) (hW : Below V5.heap.size V5 W) => itoa_any x hx W (HTB5.out.on (hW.mono hzw)).here)
            have ha1 : ∀ w : World, (Op.stringOp .add ⟨(Lib.itoa lo).toArray⟩ ⟨#[45]⟩).run Tryz.prog w = .ok (.string ⟨(Lib.itoa lo ++ [45]).toArray⟩) w := fun w => run_string_add_lists w (Lib.itoa lo) [45] (by omega) (by decide)
            have ha2 : ∀ w : World, (Op.stringOp .add ⟨(Lib.itoa lo ++ [45]).toArray⟩ ⟨(Lib.itoa hi2).toArray⟩).run Tryz.prog w = .ok (.string ⟨(Lib.itoa lo ++ [45] ++ Lib.itoa hi2).toArray⟩) w := fun w => run_string_add_lists w (Lib.itoa lo ++ [45]) (Lib.itoa hi2) (by rw [List.length_append, List.length_singleton]; omega) (by omega)
            go_upto_region 12 with (go_at_call 58; refine HCN.out.mono ?_; rintro e w' ⟨rfl, rfl⟩)
            (refine wp_region_calm_tail (V5.heap.size) 8 (by kernel_rfl) (by kernel_rfl) ?_; simp only [List.take_succ_cons, List.take_zero, List.drop_succ_cons, List.drop_zero]; (repeat (first | go_big_quiet_step ((go_at_call 60; exact Calls.calm_of (Nat.le_refl _) (HIT.out _ ⟨by omega, by omega⟩ _ (Calm.below _)))) | quiet_step ((go_at_call 60; exact Calls.calm_of (Nat.le_refl _) (HIT.out _ ⟨by omega, by omega⟩ _ (Calm.below _)))))); refine wpQuiet_nil ?_; intro _ hw'; obtain ⟨xq, hw''⟩ := hw'; subst hw'')
            have HX6 := Lib.hid (builder_step HX2.out.1 (Calm.below xq))
            have HB6 := Lib.hid (HX2.out.2.trans ((Calm.below xq).mono hz5))
            have hz6 := (Calm.below xq).size
            generalize Calm.val xq = w6 at *
            go_wp2_with (go_at_call 59; refine (writeString_any kb kb (Lib.byteCells PT) _ w6 HX6.out (len_ok hPL (by rw [ba_size]; simp only [List.length_append, List.length_cons]; omega)) (by omega)).mono ?_; rintro e w7 ⟨rfl, h7, hb7⟩)
            go_meet
            exact ⟨rfl, Lib.hid ⟨by rw [HCT.out, List.append_assoc, Lib.byteCells_append]; exact h7, HB6.out.trans hb7⟩⟩
        · rw [if_pos rfl] at HCT
          go_wp2_with (first | (go_at_call 58; refine HCN.out.mono ?_; rintro e w' ⟨rfl, rfl⟩) | (go_at_call 59; refine (writeString_any kb kb (Lib.byteCells PT) _ _ HX2.out.1 (len_ok hPL (by decide)) hz5).mono ?_; rintro e w7 ⟨rfl, h7, hb7⟩))
          go_meet
          exact ⟨rfl, Lib.hid ⟨by rw [HCT.out, Lib.byteCells_append]; exact h7, HX2.out.2.trans hb7⟩⟩
      case rest =>
        clear HX2 HCN HTB5 d0 d1 hzc hz5 HFI HCT HOW
        obtain ⟨rfl, HXC⟩ := hcut
        have hzC : kb ≤ wc.heap.size := by have := HXC.out.2.size; have := HKB.out; omega
        have hPL : (Lib.byteCells (PT ++ CT)).length ≤ 3000 := by rw [Lib.byteCells_length, List.length_append]; omega
        have HSP := Lib.hid (show sepT n wd i = if (i + 1) % wd = 0 ∨ i + 1 = n then [10] else [32] from rfl)
        generalize sepT n wd i = SP at *
        have hmod : Int.tmod ((i : Int) + 1) (wd : Int) = (((i + 1) % wd : Nat) : Int) := by
          rw [show (i : Int) + 1 = ((i + 1 : Nat) : Int) by omega, Int.tmod_eq_emod_of_nonneg (by omega)]
          rfl
        generalize hmm : (i + 1) % wd = md at *
        clear hmm
        by_cases h1 : md = 0
        · subst h1
          rw [if_pos (Or.inl rfl)] at HSP
          go_wp2_with (go_at_call 59; refine (writeString_any kb kb (Lib.byteCells (PT ++ CT)) _ wc HXC.out.1 (len_ok hPL (by decide)) hzC).mono ?_; rintro e w7 ⟨rfl, h7, hb7⟩)
          go_roundw; (case rel => exact ⟨i + 1, by omega, by go_num, Lib.hid ⟨by rw [HPS.out, HSP.out, Lib.byteCells_append]; exact h7, HXC.out.2.trans hb7⟩⟩); (case measure => (simp [intOf]; omega))
        · have h1' : (((md : Nat) : Int) == 0) = false := by rw [beq_eq_false_iff_ne]; omega
          by_cases h2 : i + 1 = n
          · rw [if_pos (Or.inr h2)] at HSP
            have h2' : ((i : Int) + 1 == (n : Int)) = true := by rw [beq_iff_eq]; omega
            go_wp2_with (go_at_call 59; refine (writeString_any kb kb (Lib.byteCells (PT ++ CT)) _ wc HXC.out.1 (len_ok hPL (by decide)) hzC).mono ?_; rintro e w7 ⟨rfl, h7, hb7⟩)
            go_roundw; (case rel => exact ⟨i + 1, by omega, by go_num, Lib.hid ⟨by rw [HPS.out, HSP.out, Lib.byteCells_append]; exact h7, HXC.out.2.trans hb7⟩⟩); (case measure => (simp [intOf]; omega))
          · rw [if_neg (by rintro (h | h); exact h1 h; exact h2 h)] at HSP
            have h2' : ((i : Int) + 1 == (n : Int)) = false := by rw [beq_eq_false_iff_ne]; omega
            go_wp2_with (go_at_call 59; refine (writeString_any kb kb (Lib.byteCells (PT ++ CT)) _ wc HXC.out.1 (len_ok hPL (by decide)) hzC).mono ?_; rintro e w7 ⟨rfl, h7, hb7⟩)
            go_roundw; (case rel => exact ⟨i + 1, by omega, by go_num, Lib.hid ⟨by rw [HPS.out, HSP.out, Lib.byteCells_append]; exact h7, HXC.out.2.trans hb7⟩⟩); (case measure => (simp [intOf]; omega))
    · obtain rfl : n = i := by omega
      have hlt' : ¬ (n : Int) < (n : Int) := by omega
      go_wp2_with (go_at_call 61; refine (Tryz.Builder_String_any kb kb (picT fr bn n wd n) wr HX.out.1 hz).mono ?_; rintro e w6 ⟨rfl, hb6⟩)
      exact HR.out _ (HBW.out.trans ((HX.out.2.trans hb6).mono (by have := HBW.out.size; have := HKB.out; omega)))
theorem checkF_zero {n : Nat} {ss : Nat → SV} {m : Nat} {bs : Nat → BM} {f : Bool} (h : checkF n ss m bs f = 0) : checkN n ss m bs = 0 ∧ f = true := by
  cases f with
  | false => unfold checkF at h; rw [if_pos (.inr rfl)] at h; cases h
  | true => exact ⟨checkF_true ▸ h, rfl⟩
theorem Print_any (a : Option Addr) (n c : Nat) (ba : Option Addr) (m bc : Nat) (ss : Nat → SV) (bs : Nat → BM) (wide : Int) (w : World) (B : Nat) (hBw : B ≤ w.heap.size) (hS : Spans B w a n ss) (hM : Beams B w ba m bs) (htab : Lib.TabIs Tryz.prog w "internal/strconv.uint64pow10" .u64 Lib.pow10Tab) :
    Calls Tryz.prog 23 #[imageV a n c ba m bc, .int .i64 wide] w (PrintRes n ss m bs wide w) := by
  by_cases hC : checkF n ss m bs (inB wide 1 40) = 0
  · obtain ⟨hN, hw⟩ := checkF_zero hC
    rw [inB_iff] at hw
    by_cases hA : allF n ss m bs = []
    · exact Print_none a n c ba m bc ss bs wide w B hBw hS hM hC hN hA
    · exact Print_ok a n c ba m bc ss bs wide w B hBw hS hM hC hN hw hA htab
  · exact Print_bad a n c ba m bc ss bs wide w B hBw hS hM hC
end Go.Proofs.YtkdopjkdokgipaaGreatDoor
