/- The walk of image.Holds. -/
import Derived.Test.YtkdopjkdokgipaaGreatDoorGiA
import Derived.Test.YtkdopjkdokgipaaGreatDoorGgA
namespace Go.Proofs.YtkdopjkdokgipaaGreatDoor
open Go.RowKit
set_option linter.unusedVariables false
set_option linter.unusedSimpArgs false
theorem two_allocs (W : World) (o1 o2 : Obj) : Below W.heap.size W ((W.alloc o1).alloc o2) ∧ ((W.alloc o1).alloc o2).heap.size = W.heap.size + 1 + 1 ∧ ((W.alloc o1).alloc o2).heap[W.heap.size]? = some o1 ∧ ((W.alloc o1).alloc o2).heap[W.heap.size + 1]? = some o2 := by
  have a1 := alloc_below W o1
  have a2 := alloc_below (W.alloc o1) o2
  have z1 : (W.alloc o1).heap.size = W.heap.size + 1 := by simp
  refine ⟨a1.trans (a2.mono a1.size), by simp, alloc_kept a2, ?_⟩
  have := heap_alloc_new (W.alloc o1) o2
  rwa [z1] at this
/-- which proofs hold -/
def holdsB (n : Nat) (ss : Nat → SV) (m : Nat) (bs : Nat → BM) (len : Nat) (ns : Nat → NM) : Bool := decide (checkN n ss m bs = 0) && (decide (len ≤ 4000) && (decide (0 < len) && (holdsF n m bs len ns (len + 1) ss 0 == len)))
set_option maxRecDepth 100000 in
set_option maxHeartbeats 1000000 in
theorem Holds_any (a : Option Addr) (n c : Nat) (ba : Option Addr) (m bc : Nat) (ss : Nat → SV) (bs : Nat → BM) (na : Option Addr) (len nc : Nat) (ns : Nat → NM) (hnc : n ≤ c ∧ c ≤ maxLen) (hln : len ≤ maxLen) (w : World) (B : Nat) (hBw : B ≤ w.heap.size) (hS : Spans B w a n ss) (hM : Beams B w ba m bs) (hN : Nodes B w na len ns) :
    Calls Tryz.prog 30 #[imageV a n c ba m bc, .slice na len nc] w fun e w' => e = .returned (.bool (holdsB n ss m bs len ns)) ∧ Below w.heap.size w w' := by
  have HS := Lib.hid hS
  have HM := Lib.hid hM
  have HN := Lib.hid hN
  have hcm := hnc.2
  unfold maxLen at hln
  obtain ⟨E, hE⟩ : ∃ E, E = checkN n ss m bs := ⟨_, rfl⟩
  have HC := Lib.hid hE.symm
  clear hS hM hN
  generalize hr : holdsB n ss m bs len ns = r
  have HR := Lib.hid hr
  clear hr
  go_enter Tryz.func30, Tryz.ntmps30
  go_upto_region 1 with (fail)
  have HLI := Lib.hid (show LI a n c ba m bc w ((w.alloc (.cells #[.slice a n c, .slice ba m bc] 50)).alloc (.cells #[.slice na len nc] 64)) from LI_step LI_start (alloc_below _ _))
  have hP := heap_alloc_new (w.alloc (.cells #[.slice a n c, .slice ba m bc] 50)) (.cells #[.slice na len nc] 64)
  rw [show (w.alloc (.cells #[.slice a n c, .slice ba m bc] 50)).heap.size = w.heap.size + 1 by simp] at hP
  have HP := Lib.hid hP
  clear hP
  generalize World.alloc (World.alloc w _) _ = V at *
  obtain ⟨l0, l1, l2, l3⟩ := HLI.out
  have p0 : V.cell? ⟨w.heap.size + 1, 0, none⟩ = some (.slice na len nc) := cell_of_row _ _ _ _ _ _ HP.out
  have hpz : w.heap.size + 1 < V.heap.size := (Array.getElem?_eq_some_iff.1 HP.out).1
  by_cases hC : E = 0
  · have h1 : (E != 0) = false := by rw [hC]; rfl
    by_cases hL : len ≤ 4000
    · have hL' : decide ((4000 : Int) < (len : Int)) = false := decide_eq_false (by omega)
      have HSh := Lib.hid (checkN_shape (hE.symm.trans hC))
      have HRE := Lib.hid (show r = (decide (0 < len) && (holdsF n m bs len ns (len + 1) ss 0 == len)) by rw [← HR.out]; unfold holdsB; rw [decide_eq_true (hE.symm.trans hC), decide_eq_true hL, Bool.true_and, Bool.true_and])
      clear hE HR
      subst hC
      go_upto_region 6 with (first | ((go_at_call 51; refine (Check_any a n c ba m bc ss bs _ B (by have := HLI.out.2.2.1; omega) (HS.out.below (HLI.out.2.2.2.mono hBw)) (HM.out.below (HLI.out.2.2.2.mono hBw))).mono ?_; rintro e w1 ⟨rfl, hb⟩; rw [HC.out]); have HLI1 := Lib.hid (LI_step HLI.out hb); have HP1 := Lib.hid ((hb.block _ hpz).trans HP.out); obtain ⟨k0, k1, k2, k3⟩ := HLI1.out; have p1 : w1.cell? ⟨w.heap.size + 1, 0, none⟩ = some (.slice na len nc) := cell_of_row _ _ _ _ _ _ HP1.out; have hpz1 : w.heap.size + 1 < w1.heap.size := (Array.getElem?_eq_some_iff.1 HP1.out).1; clear hb) | (go_at_call 52; refine (look_any a n c ba m bc ss bs _ B (by omega) (HS.out.below (k3.mono hBw)) (HM.out.below (k3.mono hBw)) HSh.out).mono ?_; rintro e w2 ⟨rfl, wa, wc, ra, rc, ws, rs, lk⟩; have HLK := Lib.hid lk; clear lk))
      obtain ⟨hVb, hVz, e1, e2⟩ := two_allocs w2 (.cells #[.pointer (some ⟨w1.heap.size + 1, 0, none⟩)] 103) (.cells #[.func (.func 72) #[] #[.pointer (some ⟨w.heap.size + 1, 0, none⟩), .pointer (some ⟨w2.heap.size, 0, none⟩), .pointer (some ⟨w2.heap.size + 1, 0, none⟩)]] 142)
      generalize World.alloc (World.alloc w2 _) _ = V2 at *
      have hb2 := HLK.out.li.2.2.2
      have hwz2 := hb2.size
      have HB4 := Lib.hid (k3.trans ((hb2.trans (hVb.mono hwz2)).mono (by omega)))
      have HAT := Lib.hid (show HoldAt (Rk B w1.heap.size w2.heap.size) n ss m bs (w1.heap.size + 1) (w.heap.size + 1) w2.heap.size (w2.heap.size + 1) len ns V2 from
        ⟨(HLK.out.search (HS.out.below (k3.mono hBw)) (HM.out.below (k3.mono hBw)) (by omega)).rests (Rests.below hVb (fun b hb => by rcases hb with h | h <;> omega)) hVb.size, fun b hb => by rcases hb with h | h <;> omega,
         ⟨na, nc, cell_of_row _ _ _ _ _ _ ((hVb.block _ (by omega)).trans ((hb2.block _ hpz1).trans HP1.out)), (HN.out.below (HB4.out.mono hBw)).up (by have := HB4.out.size; omega)⟩, by omega, cell_of_row _ _ _ _ _ _ e1, by omega, cell_of_row _ _ _ _ _ _ e2, by omega⟩)
      have HSV := Lib.hid ((HS.out.below (HB4.out.mono hBw)).up (by have := HB4.out.size; omega) : Spans V2.heap.size V2 a n ss)
      have m0 : V2.cell? ⟨w.heap.size + 1, 0, none⟩ = some (.slice na len nc) := cell_of_row _ _ _ _ _ _ ((hVb.block _ (by omega)).trans ((hb2.block _ hpz1).trans HP1.out))
      have m1 : V2.cell? ⟨w2.heap.size + 1, 0, none⟩ = some (.func (.func 72) #[] #[.pointer (some ⟨w.heap.size + 1, 0, none⟩), .pointer (some ⟨w2.heap.size, 0, none⟩), .pointer (some ⟨w2.heap.size + 1, 0, none⟩)]) := cell_of_row _ _ _ _ _ _ e2
      have m2 := (LI_step (LI_step HLI1.out hb2) hVb).1
      have hz1 : w.heap.size + 1 < V2.heap.size := by omega
      have hz2 : w2.heap.size + 1 < V2.heap.size := by omega
      have hz3 : w.heap.size < V2.heap.size := by omega
      have hBO : BoxOk n ss := fun j hj => by have := HSh.out.span j hj; omega
      have HBO := Lib.hid hBO
      clear e1 e2 hVb hVz hBO HLK hb2 hwz2 p1 k0 k1 p0 l0 l1
      by_cases h0 : len = 0
      · have h0' : decide ((0 : Int) < (len : Int)) = false := decide_eq_false (by omega)
        have HR0 := Lib.hid (show r = false by rw [HRE.out, decide_eq_false (by omega), Bool.false_and])
        clear HRE
        (refine wp_region_calm (V2.heap.size) (by kernel_rfl) (by kernel_rfl) ?_; (repeat (first | go_big_quiet_step (fail) | quiet_step (fail))); refine wpQuiet_nil ?_; intro _ hw'; obtain ⟨xq, hw''⟩ := hw'; subst hw'')
        have HBX := Lib.hid xq.below
        go_wp2
        go_ret
        exact ⟨ret_bool HR0.out.symm, HB4.out.trans (HBX.out.mono HB4.out.size)⟩
      · have h0' : decide (0 < len) = true := decide_eq_true (by omega)
        have h0'' : 0 < len := by omega
        have HCL := Lib.hid (fun (x : Calm V2.heap.size V2) => show Calls Tryz.prog 72 #[.int .i64 0, .slice a n c, .pointer (some ⟨w.heap.size + 1, 0, none⟩), .pointer (some ⟨w2.heap.size, 0, none⟩), .pointer (some ⟨w2.heap.size + 1, 0, none⟩)] x.val (fun e W' => e = .returned (.int .i64 ((holdsF n m bs len ns (len + 1) ss 0 : Nat) : Int)) ∧ Below x.val.heap.size x.val W') from hold_all _ n ss m bs _ _ _ _ len ns HSh.out (by omega) (len + 1) 0 a c ss x.val (by omega) (by omega) HBO.out hnc.1 hnc.2 ((HSV.out.below x.below).up x.below.size) (HAT.out.step x.below))
        generalize holdsF n m bs len ns (len + 1) ss 0 = H at *
        have HR0 := Lib.hid (show r = ((H : Int) == (len : Int)) by
          rw [HRE.out, decide_eq_true (by omega), Bool.true_and]
          rw [Bool.eq_iff_iff, beq_iff_eq, beq_iff_eq]; omega)
        clear HRE
        (refine wp_region_calm (V2.heap.size) (by kernel_rfl) (by kernel_rfl) ?_; (repeat (first | go_big_quiet_step ((go_at_call 72; refine Calls.calm_of (Nat.le_refl _) (HCL.out _))) | quiet_step ((go_at_call 72; refine Calls.calm_of (Nat.le_refl _) (HCL.out _))))); refine wpQuiet_nil ?_; intro _ hw'; obtain ⟨xq, hw''⟩ := hw'; subst hw'')
        have HBX := Lib.hid xq.below
        go_wp2
        go_ret
        exact ⟨ret_bool HR0.out.symm, HB4.out.trans (HBX.out.mono HB4.out.size)⟩
    · have hL' : decide ((4000 : Int) < (len : Int)) = true := decide_eq_true (by omega)
      have HR0 := Lib.hid (show r = false by rw [← HR.out]; unfold holdsB; rw [decide_eq_false hL, Bool.false_and, Bool.and_false])
      clear hE hC HR
      go_wp2_with ((go_at_call 51; refine (Check_any a n c ba m bc ss bs _ B (by have := HLI.out.2.2.1; omega) (HS.out.below (HLI.out.2.2.2.mono hBw)) (HM.out.below (HLI.out.2.2.2.mono hBw))).mono ?_; rintro e w1 ⟨rfl, hb⟩; rw [HC.out]); have p1 := ((bcell hb).1 _ _ hpz).trans p0)
      go_ret
      exact ⟨ret_bool HR0.out.symm, l3.trans (hb.mono (by omega))⟩
  · have h1 : (E != 0) = true := by simpa using hC
    have HR0 := Lib.hid (show r = false by rw [← HR.out]; unfold holdsB; rw [decide_eq_false (by rw [← hE]; exact hC), Bool.false_and])
    clear hE hC HR
    go_wp2_with (go_at_call 51; refine (Check_any a n c ba m bc ss bs _ B (by have := HLI.out.2.2.1; omega) (HS.out.below (HLI.out.2.2.2.mono hBw)) (HM.out.below (HLI.out.2.2.2.mono hBw))).mono ?_; rintro e w1 ⟨rfl, hb⟩; rw [HC.out])
    go_ret
    exact ⟨ret_bool HR0.out.symm, l3.trans (hb.mono (by omega))⟩
end Go.Proofs.YtkdopjkdokgipaaGreatDoor
