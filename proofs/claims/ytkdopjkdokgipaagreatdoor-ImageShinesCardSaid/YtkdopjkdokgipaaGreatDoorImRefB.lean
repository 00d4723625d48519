/- The walk of Refute where no field agrees. -/
import Derived.Test.YtkdopjkdokgipaaGreatDoorGnA
namespace Go.Proofs.YtkdopjkdokgipaaGreatDoor
open Go.RowKit
set_option linter.unusedVariables false
set_option linter.unusedSimpArgs false
theorem OutAt.fin {base ob m eb : Nat} {v u0 : Value} {W : World} {L : List NM} (h : OutAt base ob m v W L) (he : W.heap[eb]? = some (.cells #[u0] 32)) (hne : eb ≠ ob) (u : Value) :
    OutAt base ob m v ((W.setCell ⟨ob, 0, none⟩ v).setCell ⟨eb, 0, none⟩ u) L ∧ ((W.setCell ⟨ob, 0, none⟩ v).setCell ⟨eb, 0, none⟩ u).heap[eb]? = some (.cells #[u] 32) := by
  have h1 := heap_setCell_same W ob 0 _ _ v h.obox
  have h2 := (heap_setCell_other W ⟨ob, 0, none⟩ eb v hne).trans he
  have k1 := ownsRow_setCell_other (a := ⟨ob, 0, none⟩) h.own h.off v
  refine ⟨⟨(heap_setCell_other _ ⟨eb, 0, none⟩ ob u (Ne.symm hne)).trans h1, ownsRow_setCell_other (a := ⟨eb, 0, none⟩) k1 (own_off k1 h2 (by decide)) u, h.le, fun x hx => ?_⟩, heap_setCell_same _ eb 0 _ _ u h2⟩
  rcases h.times x hx with q | ⟨b, q1, q2, q3, q4, q5, q6⟩
  · exact .inl q
  · have hbe : b ≠ eb := by
      intro e
      subst e
      obtain ⟨cur, r1, _⟩ := q6
      rw [he] at r1
      injection r1 with r1
      injection r1 with _ r2
      exact absurd r2 (by decide)
    exact .inr ⟨b, q1, q2, q3, q4, ⟨by simpa using q5.1, q5.2⟩, q6.block ((heap_setCell_other _ ⟨eb, 0, none⟩ b u hbe).trans (heap_setCell_other W ⟨ob, 0, none⟩ b v q5.2.1))⟩
set_option maxRecDepth 100000 in
set_option maxHeartbeats 4000000 in
theorem Refute_none (a : Option Addr) (n c : Nat) (ba : Option Addr) (m bc : Nat) (ss : Nat → SV) (bs : Nat → BM) (hnc : n ≤ c ∧ c ≤ maxLen) (w : World) (B : Nat) (hBw : B ≤ w.heap.size) (hS : Spans B w a n ss) (hM : Beams B w ba m bs) (hC : checkN n ss m bs = 0) (hA : allF n ss m bs = []) :
    Calls Tryz.prog 24 #[imageV a n c ba m bc] w (RefuteRes n ss m bs w) := by
  have hSh := checkN_shape hC
  have HSh := Lib.hid hSh
  have HS := Lib.hid hS
  have HM := Lib.hid hM
  have HH := Lib.hid (halved_all hSh hA)
  have HF := Lib.hid (fun (W : World) (hb : Below w.heap.size w W) => show Calls Tryz.prog 19 #[imageV a n c ba m bc] W (fun e w' => e = .returned (.tuple #[.slice none 0 0, .int .i64 5]) ∧ Below W.heap.size W w') from (First_any a n c ba m bc ss bs W B (by have := hb.size; omega) (hS.below (hb.mono hBw)) (hM.below (hb.mono hBw))).mono fun e w' h => by
    obtain ⟨h1, h2⟩ := h
    rw [if_pos hC, hA] at h2
    exact ⟨h2, h1⟩)
  have hmf : ∀ (fn : Fn) (first cap : Array Value) (w : World), (Instr.makeFunc fn first cap).run Tryz.prog w = .ok (.func fn first cap) w := fun _ _ _ _ => rfl
  clear hSh hS hM
  generalize hres : RefuteRes n ss m bs w = RES
  have HR := Lib.hid hres
  clear hres
  go_enter_defers Tryz.func24, Tryz.ntmps24
  go_upto_region 1 with (fail)
  have HRB := Lib.hid (show RB a n c ba m bc w 64 32 (.slice none 0 0) (.int .i64 0) (((w.alloc (.cells #[.slice a n c, .slice ba m bc] 50)).alloc (.cells #[.slice none 0 0] 64)).alloc (.cells #[.int .i64 0] 32)) from RB.start)
  generalize World.alloc (World.alloc (World.alloc w _) _) _ = V at *
  obtain ⟨l0, l1, l2, l3⟩ := HRB.out.li
  go_upto_region 7 with (go_at_call 19; refine (HF.out _ HRB.out.li.2.2.2).mono ?_; rintro e w1 ⟨rfl, hb⟩; have HRB1 := Lib.hid (HRB.out.step hb); have c1 := HRB1.out.c1; have c2 := HRB1.out.c2; have f1 := HRB1.out.f1; have f2 := HRB1.out.f2; obtain ⟨k0, k1, k2, k3⟩ := HRB1.out.li; clear hb)
  have hw1 := HRB1.out.size
  have hbB : B ≤ w1.heap.size := by omega
  go_upto_region 10 with (go_at_call 52; refine (look_any a n c ba m bc ss bs _ B hbB (HS.out.below (k3.mono hBw)) (HM.out.below (k3.mono hBw)) HSh.out).mono ?_; rintro e w2 ⟨rfl, wa, wc, ra, rc, ws, rs, lk⟩; have HLK := Lib.hid lk; clear lk)
  obtain ⟨hVb, hVz, e1, e2⟩ := two_allocs w2 (.cells #[.pointer (some ⟨w1.heap.size + 1, 0, none⟩)] 103) (.cells #[.func (.func 63) #[] #[.pointer (some ⟨w.heap.size + 1, 0, none⟩), .pointer (some ⟨w2.heap.size, 0, none⟩), .pointer (some ⟨w2.heap.size + 1, 0, none⟩)]] 124)
  generalize World.alloc (World.alloc w2 _) _ = V2 at *
  have hb2 := HLK.out.li.2.2.2
  have hwz2 := hb2.size
  have HRB3 := Lib.hid ((HRB1.out.step hb2).step hVb)
  have HB4 := Lib.hid HRB3.out.li.2.2.2
  have hz2 : w2.heap.size + 1 < V2.heap.size := by omega
  have HAT := Lib.hid (show ProveAt (Rk B w1.heap.size w2.heap.size) n ss m bs (w1.heap.size + 1) w.heap.size (w.heap.size + 1) w2.heap.size (w2.heap.size + 1) (.slice none 0 0) V2 [] from
    ⟨(HLK.out.search (HS.out.below (k3.mono hBw)) (HM.out.below (k3.mono hBw)) hbB).rests (Rests.below hVb (fun b hb => by rcases hb with h | h <;> omega)) hVb.size, fun b hb => ⟨by rcases hb with h | h <;> omega, by rcases hb with h | h <;> omega, fun e => by cases e⟩,
     cell_of_row _ _ _ _ _ _ e1, ⟨by omega, by omega, fun e => by cases e⟩, cell_of_row _ _ _ _ _ _ e2, ⟨by omega, by omega, fun e => by cases e⟩,
     ⟨HRB3.out.r1, World.ownsRow_nil _ _ _ _, by omega, fun x hx => by cases hx⟩⟩)
  have HSV := Lib.hid (Spans.inR (R := Safe (w.heap.size + 1) (.slice none 0 0) V2) (HS.out.below (HB4.out.mono hBw)) (fun b hb => ⟨by omega, by omega, fun e => by cases e⟩) (by omega))
  have m1 : V2.cell? ⟨w2.heap.size + 1, 0, none⟩ = some (.func (.func 63) #[] #[.pointer (some ⟨w.heap.size + 1, 0, none⟩), .pointer (some ⟨w2.heap.size, 0, none⟩), .pointer (some ⟨w2.heap.size + 1, 0, none⟩)]) := cell_of_row _ _ _ _ _ _ e2
  obtain ⟨m2, m3, m4, _⟩ := HRB3.out.li
  have HBO := Lib.hid (show BoxOk n ss from fun j hj => by have := HSh.out.span j hj; omega)
  have hi1 := prove_all _ n ss m bs _ _ _ _ _ HSh.out ((sizeN ss n).toNat + 1) a c ss _ V2 [] HH.out HBO.out hnc.1 hnc.2 (by simp) HSV.out HAT.out
  unfold PArgs at hi1
  have HI1 := Lib.hid hi1
  clear hi1 e1 e2 hVb hb2 l0 l1 k0 k1 c1 c2 f1 f2
  have HRa := Lib.hid (fun (w' : World) (a' : Option Addr) (c' ob : Nat) (L : List NM) (hb : Below w.heap.size w w') (hl : (prfF n ss m bs).length ≤ 4000) (ho : OutAt w.heap.size ob m (.slice a' L.length c') w' L) (hm : L.map NM.nv = prfF n ss m bs) => show RES (.returned (.tuple #[.slice a' L.length c', .int .i64 0])) w' from by
    rw [← HR.out]
    refine ⟨hb, ?_⟩
    rw [if_pos hC, hA]
    dsimp only
    rw [if_pos hl]
    exact ⟨a', c', L, ob, rfl, ho, hm⟩)
  have HRb := Lib.hid (fun (w' : World) (hb : Below w.heap.size w w') (hl : 4000 < (prfF n ss m bs).length) => show RES (.returned (.tuple #[.slice none 0 0, .int .i64 3])) w' from by
    rw [← HR.out]
    refine ⟨hb, ?_⟩
    rw [if_pos hC, hA]
    dsimp only
    rw [if_neg (by omega)])
  have HPF := Lib.hid (show prfF n ss m bs = prf n m bs ((sizeN ss n).toNat + 1) ss 0 from rfl)
  have HSE := Lib.hid (show Safe (w.heap.size + 1) (.slice none 0 0) V2 (w.heap.size + 1 + 1) from ⟨by omega, by omega, fun e => by cases e⟩)
  generalize prfF n ss m bs = PF at *
  clear hC hA hmf
  go_wp2_with (go_at_call 63; refine HI1.out.mono ?_; intro e W5 hr5; rcases ProveRes.split hr5 rfl HPF.out with ⟨x5, v5, L5, rfl, hk5, ho5, hl5⟩ | ⟨v5, L1, rfl, hk5, ho5, hm5, hl5⟩; (· (have hE5 := (hk5.kept HSE.out).trans HRB3.out.r2; have HB6 := Lib.hid (HB4.out.trans (hk5.below (B := w.heap.size) (by omega) (fun g e => by cases e) (by omega))); obtain ⟨a5, c5, hv5⟩ := ho5.form; have HO5 := Lib.hid ho5.obox; have HL5 := Lib.hid hl5; have HE5 := Lib.hid hE5; clear ho5 hk5 hl5 hE5; have HV5 := Lib.hid hv5; clear hv5; unfold longP; go_wp2; refine leaves_cons (f := 62) (args := #[.pointer (some ⟨w.heap.size + 1, 0, none⟩), .pointer (some ⟨w.heap.size + 1 + 1, 0, none⟩)]) (by simp) (by simp [go_sem]) ?_; refine (refute_catch (w.heap.size + 1) (w.heap.size + 1 + 1) v5 x5 _ (by omega) HO5.out HE5.out ⟨_, _, _, HV5.out⟩).mono ?_; rintro e u' w'' ⟨rfl, rfl, hx1, hx2, hx3⟩; have hy1 := cell_of_row _ _ 0 _ _ _ hx1; have hy2 := cell_of_row _ _ 0 _ _ _ hx2; have hy3 := hx3 w.heap.size w (by omega) (by omega) HB6.out; clear hx1 hx2 hx3; simp [Leaves, settle, results, Tryz.results24, go_sem, hy1, hy2]; exact HRb.out _ hy3 (by simpa using HL5.out))); (have hE5 := (hk5.kept HSE.out).trans HRB3.out.r2; have HB6 := Lib.hid (HB4.out.trans (hk5.below (B := w.heap.size) (by omega) (fun g e => by cases e) (by omega))); rw [List.nil_append] at ho5; obtain ⟨a5, c5, hv5⟩ := ho5.form; obtain ⟨len5, hlen5⟩ : ∃ y, y = L1.length := ⟨_, rfl⟩; rw [← hlen5] at hv5; subst hv5; have q1 := ho5.cell; have q2 := ho5.frozen; have q3 := cell_of_row _ _ 0 _ _ _ hE5; have q4 := frozen_of_row _ _ 0 _ _ hE5; have HFI := Lib.hid (OutAt.fin ho5 hE5 (by omega) (.int .i64 0)); have HM5 := Lib.hid hm5; have HL5 := Lib.hid hl5; have HN5 := Lib.hid hlen5; clear hk5 ho5 hm5 hl5 hE5 hlen5 hr5))
  (refine leaves_cons (f := 62) (args := #[.pointer (some ⟨w.heap.size + 1, 0, none⟩), .pointer (some ⟨w.heap.size + 1 + 1, 0, none⟩)]) (by simp) (by simp [go_sem]) ?_; refine (refute_idle _ _ _).mono ?_; rintro e u' w'' ⟨rfl, rfl, rfl⟩)
  have hy1 := cell_of_row _ _ 0 _ _ _ HFI.out.1.obox
  have hy2 := cell_of_row _ _ 0 _ _ _ HFI.out.2
  have HGB := Lib.hid ((HB6.out.setCell (p := ⟨w.heap.size + 1, 0, none⟩) (by show w.heap.size ≤ w.heap.size + 1; omega) (.slice a5 len5 c5)).setCell (p := ⟨w.heap.size + 1 + 1, 0, none⟩) (by show w.heap.size ≤ w.heap.size + 1 + 1; omega) (.int .i64 0))
  have HOF := Lib.hid HFI.out.1
  clear HFI HB6 q1 q2 q3 q4
  generalize World.setCell (World.setCell W5 _ _) _ _ = Wf at *
  simp [Leaves, settle, results, Tryz.results24, go_sem, hy1, hy2]
  obtain rfl := HN5.out
  exact HRa.out Wf a5 c5 _ L1 HGB.out (by simpa using HL5.out) HOF.out HM5.out
theorem checkN_vals {n : Nat} {ss : Nat → SV} {m : Nat} {bs : Nat → BM} : checkN n ss m bs ≠ 5 := by unfold checkN; split <;> (try split) <;> decide
theorem Refute_any (a : Option Addr) (n c : Nat) (ba : Option Addr) (m bc : Nat) (ss : Nat → SV) (bs : Nat → BM) (hnc : n ≤ c ∧ c ≤ maxLen) (w : World) (B : Nat) (hBw : B ≤ w.heap.size) (hS : Spans B w a n ss) (hM : Beams B w ba m bs) :
    Calls Tryz.prog 24 #[imageV a n c ba m bc] w (RefuteRes n ss m bs w) := by
  have HF : ∀ W, Below w.heap.size w W → Calls Tryz.prog 19 #[imageV a n c ba m bc] W (FirstRes n ss m bs W) := fun W hb => First_any a n c ba m bc ss bs W B (by have := hb.size; omega) (hS.below (hb.mono hBw)) (hM.below (hb.mono hBw))
  by_cases hC : checkN n ss m bs = 0
  · cases hA : allF n ss m bs with
    | nil => exact Refute_none a n c ba m bc ss bs hnc w B hBw hS hM hC hA
    | cons g t =>
      refine (Refute_early a n c ba m bc w 0 (by decide) (fun W hb => (HF W hb).mono (fun e w' h => ?_))).mono (fun e w' h => ⟨h.2, ?_⟩)
      · obtain ⟨h1, h2⟩ := h
        rw [if_pos hC, hA] at h2
        obtain ⟨x, y, rfl, _⟩ := h2
        exact ⟨_, rfl, h1⟩
      · rw [if_pos hC, hA]
        exact h.1
  · refine (Refute_early a n c ba m bc w (checkN n ss m bs) checkN_vals (fun W hb => (HF W hb).mono (fun e w' h => ?_))).mono (fun e w' h => ⟨h.2, ?_⟩)
    · obtain ⟨h1, h2⟩ := h
      rw [if_neg hC] at h2
      exact ⟨_, h2, h1⟩
    · rw [if_neg hC]
      have := h.1
      rw [if_neg hC] at this
      exact this
end Go.Proofs.YtkdopjkdokgipaaGreatDoor
