/- Texts put together: LawS, RefAl0, RefAg. -/
import Derived.Test.YtoagfopcamcgmaaDoorRef8
import Derived.Test.YtoagfopcamcgmaaDoorGgA
import Derived.Test.YtoagfopcamcgmaaDoorGjA
import Derived.Test.YtoagfopcamcgmaaDoorGaA
namespace Go.Proofs.YtoagfopcamcgmaaDoor
open Go.RowKit
set_option linter.unusedVariables false
set_option linter.unusedSimpArgs false
def shortB (n m : Nat) (bs : Nat → BM) : Bool := allUpto m (fun i => decide ((bs i).cn ≤ 50) && decide ((bs i).wn ≤ 50)) && (decide (n ≤ 50) && decide (m ≤ 25))
theorem shortB_no {n m : Nat} {bs : Nat → BM} {i : Nat} (hi : i < m) (h : 50 < (bs i).cn ∨ 50 < (bs i).wn) : shortB n m bs = false := by
  unfold shortB
  rw [allUpto_false hi (by
    rcases h with h | h
    · rw [decide_eq_false (by omega), Bool.false_and]
    · rw [decide_eq_false (p := (bs i).wn ≤ 50) (by omega), Bool.and_false]), Bool.false_and]
theorem shortB_end {n m : Nat} {bs : Nat → BM} (h : ∀ i, i < m → (bs i).cn ≤ 50 ∧ (bs i).wn ≤ 50) : shortB n m bs = (decide (n ≤ 50) && decide (m ≤ 25)) := by
  unfold shortB
  rw [allUpto_true (fun i hi => by rw [decide_eq_true (h i hi).1, decide_eq_true (h i hi).2]; rfl), Bool.true_and]
set_option maxRecDepth 100000 in
set_option maxHeartbeats 1000000 in
theorem short_any (a : Option Addr) (n c : Nat) (ba : Option Addr) (m bc : Nat) (bs : Nat → BM) (w : World) (B : Nat) (hBw : B ≤ w.heap.size) (hn : n ≤ maxLen) (hM : Beams B w ba m bs) :
    Calls Tryd.prog 14 #[imageV a n c ba m bc] w fun e w' => e = .returned (.bool (shortB n m bs)) ∧ Below w.heap.size w w' := by
  have hm := hM.1
  unfold maxLen at hn hm
  have HM := Lib.hid hM
  have HNO := Lib.hid (fun (i : Nat) (hi : i < m) (h : 50 < (bs i).cn ∨ 50 < (bs i).wn) => shortB_no (n := n) hi h)
  have HYES := Lib.hid (fun (h : ∀ i, i < m → (bs i).cn ≤ 50 ∧ (bs i).wn ≤ 50) => shortB_end (n := n) h)
  generalize shortB n m bs = RES at *
  clear hM
  go_enter Tryd.func14, Tryd.ntmps14
  go_upto_region 1 with (fail)
  have HL := Lib.hid (show LI a n c ba m bc w (w.alloc (.cells #[.slice a n c, .slice ba m bc] 25)) from LI_start)
  generalize World.alloc w _ = V at *
  obtain ⟨l0, l1, l2, l3⟩ := HL.out
  go_wp2
  go_loopw [3] (fun t wr => ∃ i : Nat, i ≤ m ∧ t = .int .i64 (i : Int) ∧ wr = V ∧ Hid (∀ j, j < i → (bs j).cn ≤ 50 ∧ (bs j).wn ≤ 50)) (fun t _ => m - (intOf t).toNat)
  case atStart => exact ⟨0, Nat.zero_le _, rfl, rfl, Lib.hid (fun j h => by omega)⟩
  case round =>
    obtain ⟨i, hi, rfl, rfl, HA⟩ := hrel
    by_cases hlt : i < m
    · have hlt' : (i : Int) < (m : Int) := by omega
      obtain ⟨b, off, rfl, hbB, hat, hmem⟩ := HM.out.get hlt
      obtain ⟨c0, c1, c2, c3⟩ := hat.below (l3.mono hBw) hbB
      have HN := Lib.hid (HNO.out i hlt)
      have HB := Lib.hid (fun (h : (bs i).cn ≤ 50 ∧ (bs i).wn ≤ 50) j (hj : j < i + 1) => show (bs j).cn ≤ 50 ∧ (bs j).wn ≤ 50 from by (by_cases e : j = i; (subst e; exact h); exact HA.out j (by omega)))
      clear hat hmem
      by_cases h1 : 50 < (bs i).cn
      · have HE := Lib.hid (HN.out (.inl h1))
        have h1' : (50 : Int) < ((bs i).cn : Int) := by omega
        go_wp2
        go_ret
        exact ⟨ret_bool HE.out.symm, l3⟩
      · have h1' : ¬ (50 : Int) < ((bs i).cn : Int) := by omega
        by_cases h2 : 50 < (bs i).wn
        · have HE := Lib.hid (HN.out (.inr h2))
          have h2' : (50 : Int) < ((bs i).wn : Int) := by omega
          go_wp2
          go_ret
          exact ⟨ret_bool HE.out.symm, l3⟩
        · have h2' : ¬ (50 : Int) < ((bs i).wn : Int) := by omega
          have HE := Lib.hid (HB.out ⟨by omega, by omega⟩)
          go_wp2
          go_roundw
          case rel => exact ⟨i + 1, by omega, by go_num, by first | trivial | rfl, HE⟩
          case measure => simp [intOf]; omega
    · obtain rfl : i = m := by omega
      have hlt' : ¬ (i : Int) < (i : Int) := by omega
      have HE := Lib.hid (HYES.out HA.out)
      by_cases h1 : n ≤ 50
      · have h1' : (n : Int) ≤ 50 := by omega
        by_cases h2 : i ≤ 25
        · have h2' : (i : Int) ≤ 25 := by omega
          rw [decide_eq_true h1, decide_eq_true h2] at HE
          go_wp2
          go_ret
          exact ⟨ret_bool HE.out.symm, l3⟩
        · have h2' : ¬ (i : Int) ≤ 25 := by omega
          rw [decide_eq_true h1, decide_eq_false h2] at HE
          go_wp2
          go_ret
          exact ⟨ret_bool HE.out.symm, l3⟩
      · have h1' : ¬ (n : Int) ≤ 50 := by omega
        rw [decide_eq_false h1] at HE
        go_wp2
        go_ret
        exact ⟨ret_bool HE.out.symm, l3⟩
/-- few fields, or refused -/
def smallB (n : Nat) (ss : Nat → SV) (m : Nat) (bs : Nat → BM) (most : Int) : Bool := shortB n m bs && (!(checkN n ss m bs == 0) || decide (min (prodN ss n) 200001 ≤ most))
set_option maxRecDepth 100000 in
set_option maxHeartbeats 1000000 in
theorem small_any (a : Option Addr) (n c : Nat) (ba : Option Addr) (m bc : Nat) (ss : Nat → SV) (bs : Nat → BM) (most : Int) (w : World) (B : Nat) (hBw : B ≤ w.heap.size) (hS : Spans B w a n ss) (hM : Beams B w ba m bs) :
    Calls Tryd.prog 4 #[imageV a n c ba m bc, .int .i64 most] w fun e w' => e = .returned (.bool (smallB n ss m bs most)) ∧ Below w.heap.size w w' := by
  have HS := Lib.hid hS
  have HM := Lib.hid hM
  have HST := Lib.hid (fun (W : World) (hb : Below w.heap.size w W) => short_any a n c ba m bc bs W B (by have := hb.size; omega) hS.1 (hM.below (hb.mono hBw)))
  have HCK := Lib.hid (fun (W : World) (hb : Below w.heap.size w W) => r8Check_any a n c ba m bc ss bs W B (by have := hb.size; omega) (hS.below (hb.mono hBw)) (hM.below (hb.mono hBw)))
  unfold smallB
  cases h1 : shortB n m bs
  · rw [h1] at HST
    clear hS hM
    go_enter Tryd.func4, Tryd.ntmps4
    go_upto_region 1 with (fail)
    have HL := Lib.hid (show LI a n c ba m bc w (w.alloc (.cells #[.slice a n c, .slice ba m bc] 25)) from LI_start)
    generalize World.alloc w _ = V at *
    obtain ⟨l0, l1, l2, l3⟩ := HL.out
    go_wp2_with (go_at_call 14; refine (HST.out V l3).mono ?_; rintro e w2 ⟨rfl, hb2⟩)
    go_ret
    exact ⟨ret_bool rfl, l3.trans (hb2.mono l3.size)⟩
  · rw [h1] at HST
    by_cases h2 : checkN n ss m bs = 0
    · have HF := Lib.hid (fun (W : World) (hb : Below w.heap.size w W) => r8Fields_any a n c ba m bc ss W B (by have := hb.size; omega) (hS.below (hb.mono hBw)) (checkN_shape h2).span)
      rw [h2] at HCK
      rw [h2]
      generalize min (prodN ss n) 200001 = P at *
      clear hS hM h2
      by_cases h3 : P ≤ most
      · rw [decide_eq_true h3]
        go_enter Tryd.func4, Tryd.ntmps4
        go_upto_region 1 with (fail)
        have HL := Lib.hid (show LI a n c ba m bc w (w.alloc (.cells #[.slice a n c, .slice ba m bc] 25)) from LI_start)
        generalize World.alloc w _ = V at *
        obtain ⟨l0, l1, l2, l3⟩ := HL.out
        go_wp2_with (first | (go_at_call 14; refine (HST.out V l3).mono ?_; rintro e w2 ⟨rfl, hb2⟩; have HL2 := LI_step HL.out hb2; clear l0 l1 l2 l3; obtain ⟨l0, l1, l2, l3⟩ := HL2) | (go_at_call 9; refine (HCK.out w2 l3).mono ?_; rintro e w3 ⟨rfl, hb3⟩; have HL3 := LI_step ⟨l0, l1, l2, l3⟩ hb3; clear l0 l1 l2 l3; obtain ⟨l0, l1, l2, l3⟩ := HL3) | (go_at_call 15; refine (HF.out w3 l3).mono ?_; rintro e w4 ⟨rfl, hb4⟩))
        go_ret
        exact ⟨ret_bool (by first | rfl | simp [h3]), l3.trans (hb4.mono l3.size)⟩
      · rw [decide_eq_false h3]
        go_enter Tryd.func4, Tryd.ntmps4
        go_upto_region 1 with (fail)
        have HL := Lib.hid (show LI a n c ba m bc w (w.alloc (.cells #[.slice a n c, .slice ba m bc] 25)) from LI_start)
        generalize World.alloc w _ = V at *
        obtain ⟨l0, l1, l2, l3⟩ := HL.out
        go_wp2_with (first | (go_at_call 14; refine (HST.out V l3).mono ?_; rintro e w2 ⟨rfl, hb2⟩; have HL2 := LI_step HL.out hb2; clear l0 l1 l2 l3; obtain ⟨l0, l1, l2, l3⟩ := HL2) | (go_at_call 9; refine (HCK.out w2 l3).mono ?_; rintro e w3 ⟨rfl, hb3⟩; have HL3 := LI_step ⟨l0, l1, l2, l3⟩ hb3; clear l0 l1 l2 l3; obtain ⟨l0, l1, l2, l3⟩ := HL3) | (go_at_call 15; refine (HF.out w3 l3).mono ?_; rintro e w4 ⟨rfl, hb4⟩))
        go_ret
        exact ⟨ret_bool (by first | rfl | simp [h3]), l3.trans (hb4.mono l3.size)⟩
    · have h3 : (checkN n ss m bs == 0) = false := by rw [beq_eq_false_iff_ne]; exact h2
      rw [h3]
      generalize checkN n ss m bs = E at *
      have h4 : (E != 0) = true := by rw [bne, h3]; rfl
      clear hS hM h2
      go_enter Tryd.func4, Tryd.ntmps4
      go_upto_region 1 with (fail)
      have HL := Lib.hid (show LI a n c ba m bc w (w.alloc (.cells #[.slice a n c, .slice ba m bc] 25)) from LI_start)
      generalize World.alloc w _ = V at *
      obtain ⟨l0, l1, l2, l3⟩ := HL.out
      go_wp2_with (first | (go_at_call 14; refine (HST.out V l3).mono ?_; rintro e w2 ⟨rfl, hb2⟩; have HL2 := LI_step HL.out hb2; clear l0 l1 l2 l3; obtain ⟨l0, l1, l2, l3⟩ := HL2) | (go_at_call 9; refine (HCK.out w2 l3).mono ?_; rintro e w3 ⟨rfl, hb3⟩))
      go_ret
      exact ⟨ret_bool (by first | rfl | simp), l3.trans (hb3.mono l3.size)⟩
end Go.Proofs.YtoagfopcamcgmaaDoor
namespace Go.Proofs.YtoagfopcamcgmaaDoor
open Go.RowKit
set_option linter.unusedVariables false
set_option linter.unusedSimpArgs false
structure OutF (base n : Nat) (v : Value) (L : List (List Int)) (cs : List Value) (W : World) : Prop where
  own : W.ownsRow base 28 1 v L.length cs
  rows : ∀ k, k < L.length → ∃ ra rc, cs[k]? = some (.slice ra n rc) ∧ IntsX (fun b => base ≤ b ∧ b < W.heap.size ∧ v.ownBlock ≠ some b) W ra n (fOf (L.getD k []))
theorem OutF.ownlt {base n : Nat} {v : Value} {L : List (List Int)} {cs : List Value} {W : World} (h : OutF base n v L cs W) : ∀ b, v.ownBlock = some b → base ≤ b ∧ b < W.heap.size := fun b hb => by
  rcases h.own.2 with ⟨hv, _⟩ | ⟨g, cap, cur, hv, h1, h2, _⟩
  · rw [hv] at hb; cases hb
  · rw [hv] at hb
    have : g = b := by simpa [Value.ownBlock] using hb
    subst this
    exact ⟨h1, (Array.getElem?_eq_some_iff.1 h2).1⟩
theorem OutF.step {base n : Nat} {v : Value} {L : List (List Int)} {cs : List Value} {W W' : World} (h : OutF base n v L cs W) (hb : Below W.heap.size W W') : OutF base n v L cs W' :=
  ⟨own_below h.own hb, fun k hk => by
    obtain ⟨ra, rc, h1, h2⟩ := h.rows k hk
    exact ⟨ra, rc, h1, h2.keep (fun b h => ⟨h.1, Nat.lt_of_lt_of_le h.2.1 hb.size, h.2.2⟩) (fun b h => hb.block b h.2.1)⟩⟩
theorem OutF.nil (base n : Nat) (W : World) : OutF base n (.slice none 0 0) [] [] W := ⟨World.ownsRow_nil _ _ _ _, fun k hk => by simp at hk⟩
/-- a field more -/
theorem OutF.push {base n : Nat} {v : Value} {L : List (List Int)} {cs : List Value} {W W3 W5 : World} {g : List Int} {gA gc g1 p1 : Nat} {o : Obj} (h : OutF base n v L cs W) (hbase : base ≤ W.heap.size)
    (h3 : Below W.heap.size W W3) (hc : W3.ownsRow W.heap.size 3 1 (.slice (some ⟨gA, 0, none⟩) n gc) n (iC (fOf g) n)) (hA1 : W.heap.size ≤ gA) (hA2 : gA < W3.heap.size)
    (h5 : W5.ownsRow base 28 1 (.slice (some ⟨g1, 0, none⟩) (L.length + 1) p1) (L.length + 1) (cs ++ [.slice (some ⟨gA, 0, none⟩) n gc])) (hg : (W3.alloc o).grownBy W5 v.ownBlock) (hat : v.ownBlock = some g1 ∨ g1 = (W3.alloc o).heap.size) :
    OutF base n (.slice (some ⟨g1, 0, none⟩) (L.length + 1) p1) (L ++ [g]) (cs ++ [.slice (some ⟨gA, 0, none⟩) n gc]) W5 ∧ W.grownBy W5 v.ownBlock := by
  have hz3 := h3.size
  have hz4 : (W3.alloc o).heap.size = W3.heap.size + 1 := by simp
  have hz5 := hg.size
  have hol := h.ownlt
  have hcs : cs.length = L.length := by have := h.own.1; omega
  have hgA : gA ≠ g1 := by
    rcases hat with e | e
    · have := (hol g1 e).2; omega
    · omega
  have keep : ∀ b, b < W3.heap.size → v.ownBlock ≠ some b → W5.heap[b]? = W3.heap[b]? := fun b h1 h2 => (hg.block b (by omega) (Ne.symm h2)).trans (Below.heap_alloc W3 o b h1)
  refine ⟨⟨by rw [List.length_append, List.length_singleton]; exact h5, fun k hk => ?_⟩, hg.os.trans h3.os, hg.tape.trans h3.tape, hg.output.trans h3.output, by omega, fun b h1 h2 => (keep b (by omega) (fun e => h2 e.symm)).trans (h3.block b h1)⟩
  rw [List.length_append, List.length_singleton] at hk
  by_cases e : k < L.length
  · obtain ⟨ra, rc, h1, h2⟩ := h.rows k e
    refine ⟨ra, rc, by rw [List.getElem?_append_left (by omega)]; exact h1, ?_⟩
    rw [List.getD_eq_getElem?_getD, List.getElem?_append_left e, ← List.getD_eq_getElem?_getD]
    refine h2.keep (fun b h => ⟨h.1, by have := h.2.1; omega, fun e => ?_⟩) (fun b h => (keep b (by have := h.2.1; omega) h.2.2).trans (h3.block b h.2.1))
    have e' : g1 = b := by simpa [Value.ownBlock] using e
    rcases hat with q | q
    · exact h.2.2 (by rw [q, e'])
    · have := h.2.1; omega
  · have ek : k = L.length := by omega
    refine ⟨some ⟨gA, 0, none⟩, gc, by rw [List.getElem?_append_right (by omega), show k - cs.length = 0 by omega]; rfl, ?_⟩
    rw [List.getD_eq_getElem?_getD, List.getElem?_append_right (by omega), show k - L.length = 0 by omega]
    refine .inr ⟨gA, 0, rfl, ⟨by omega, by omega, fun e => hgA (by simpa [Value.ownBlock] using e.symm)⟩, fun j hj => ?_⟩
    have hne : v.ownBlock ≠ some gA := fun e => by have := (hol gA e).2; omega
    rw [Nat.zero_add]
    refine (World.cell?_of_block (keep gA hA2 hne)).trans ((hc.cellAt j (by omega)).trans ?_)
    rw [iC_get hj]
    rfl
theorem OutF.flds {base n : Nat} {v : Value} {L : List (List Int)} {cs : List Value} {W : World} (h : OutF base n v L cs W) : ∃ a c, v = .slice a L.length c ∧ Flds W.heap.size W a n L := by
  obtain ⟨a, c, rfl⟩ := own_len h.own
  refine ⟨a, c, rfl, ?_⟩
  by_cases hl : L = []
  · exact .inl hl
  · have hp : 0 < L.length := List.length_pos_iff.2 hl
    obtain ⟨g, rfl, h1, h2⟩ := own_at h.own hp
    refine .inr ⟨g, 0, rfl, h2, fun i hi => ?_⟩
    obtain ⟨ra, rc, k1, k2⟩ := h.rows i hi
    refine ⟨ra, rc, by rw [Nat.zero_add, h.own.cellAt i (by omega)]; exact k1, ?_⟩
    rcases k2 with k2 | ⟨b, off, e1, e2, e3⟩
    · exact .inl k2
    · exact .inr ⟨b, off, e1, e2.2.1, e3⟩
/-- what follows from the blocks that are kept -/
theorem grown_trans {V W W' : World} {v v' : Option Nat} (h1 : V.grownBy W v) (h2 : W.grownBy W' v') (hv : v' = v ∨ ∃ b, v' = some b ∧ V.heap.size ≤ b) : V.grownBy W' v :=
  ⟨h2.os.trans h1.os, h2.tape.trans h1.tape, h2.output.trans h1.output, Nat.le_trans h1.size h2.size, fun b hb hn => by
    refine (h2.block b (Nat.lt_of_lt_of_le hb h1.size) (fun e => ?_)).trans (h1.block b hb hn)
    rcases hv with q | ⟨b', q, hb'⟩
    · exact hn (e.trans q)
    · rw [q] at e; injection e with e; omega⟩
theorem grown_alloc {W V : World} {v : Option Nat} {o : Obj} (h : (W.alloc o).grownBy V v) : W.grownBy V v :=
  ⟨h.os, h.tape, h.output, Nat.le_trans (by simp) h.size, fun b hb hn => (h.block b (by simp; omega) hn).trans (Below.heap_alloc W o b hb)⟩
theorem dens_take {s : SV} {k : Nat} (hk : k < densN s) : (dens s).take (k + 1) = (dens s).take k ++ [s.lo + (k : Int)] := by
  have hl : k < (dens s).length := by simpa [dens, densN] using hk
  rw [List.take_add_one, List.getElem?_eq_getElem hl]
  simp [dens]
theorem iC_snoc (pre : List Int) (d : Int) : iC (fOf pre) pre.length ++ [.int .i64 d] = iC (fOf (pre ++ [d])) (pre.length + 1) := by
  apply List.ext_getElem?
  intro j
  by_cases h : j < pre.length
  · rw [List.getElem?_append_left (by rw [iC_len]; exact h), iC_get h, iC_get (by omega)]
    congr 2
    unfold fOf
    rw [List.getD_eq_getElem?_getD, List.getD_eq_getElem?_getD, List.getElem?_append_left h]
  · rw [List.getElem?_append_right (by rw [iC_len]; omega), iC_len]
    by_cases h2 : j = pre.length
    · subst h2
      rw [Nat.sub_self, iC_get (by omega)]
      unfold fOf
      rw [List.getD_eq_getElem?_getD, List.getElem?_append_right (Nat.le_refl _), Nat.sub_self]
      rfl
    · rw [List.getElem?_eq_none_iff.2 (by simp; omega), List.getElem?_eq_none_iff.2 (by rw [iC_len]; omega)]
end Go.Proofs.YtoagfopcamcgmaaDoor
namespace Go.Proofs.YtoagfopcamcgmaaDoor
open Go.RowKit
set_option linter.unusedVariables false
set_option linter.unusedSimpArgs false
theorem sum_bound {n : Nat} {b : BM} (hs : setB n b.cn b.cs = true) (hw : ∀ k, k < b.cn → 1 ≤ b.ws k ∧ b.ws k ≤ 1000000) {f : Nat → Int} (hf : ∀ c, c < n → 0 ≤ f c ∧ f c ≤ 1000) : ∀ k, k ≤ b.cn → 0 ≤ sumN (fun k => b.ws k * f (b.cs k).toNat) k ∧ sumN (fun k => b.ws k * f (b.cs k).toNat) k ≤ 1000000000 * (k : Int)
  | 0, _ => by simp [sumN]
  | k + 1, hk => by
    have ih := sum_bound hs hw hf k (by omega)
    have h1 := hw k (by omega)
    have h2 := setB_at hs (i := k) (by omega)
    have h3 := hf (b.cs k).toNat (by omega)
    have h4 : 0 ≤ b.ws k * f (b.cs k).toNat := Int.mul_nonneg (by omega) (by omega)
    have h5 : b.ws k * f (b.cs k).toNat ≤ 1000000 * 1000 := Int.mul_le_mul (by omega) (by omega) (by omega) (by omega)
    rw [sumN]
    omega
set_option maxRecDepth 100000 in
set_option maxHeartbeats 1000000 in
theorem r8Of_any (p : BM) (n : Nat) (fa : Option Addr) (fc : Nat) (f : Nat → Int) (w : World) (B : Nat) (hBw : B ≤ w.heap.size) (hp : p.mem B w) (hF : Ints w.heap.size w fa n f) (hn : n ≤ 40) (hs : setB n p.cn p.cs = true) (hwn : p.wn = p.cn) (hw : ∀ k, k < p.cn → 1 ≤ p.ws k ∧ p.ws k ≤ 1000000) (hf : ∀ c, c < n → 0 ≤ f c ∧ f c ≤ 1000) :
    Calls Tryd.prog 69 #[p.val, .slice fa n fc] w fun e w' => e = .returned (.int .i64 (ofN p f)) ∧ Below w.heap.size w w' := by
  have HSB := Lib.hid (fun k hk => sum_bound hs hw hf k hk)
  have HST := Lib.hid (fun k => show sumN (fun k => p.ws k * f (p.cs k).toNat) (k + 1) = sumN (fun k => p.ws k * f (p.cs k).toNat) k + p.ws k * f (p.cs k).toNat from rfl)
  have HW := Lib.hid hw
  have HFD := Lib.hid hf
  have HSA := Lib.hid (fun k (hk : k < p.cn) => setB_at hs hk)
  have hcn : p.cn ≤ 40 := by
    false_or_by_contra
    have h1 := setB_at hs (i := 0) (by omega)
    have h2 : ∀ k, k < p.cn → (k : Int) ≤ p.cs k := fun k hk => by
      induction k with
      | zero => exact h1.1
      | succ k ih => have := ih (by omega); have := setB_step hs hk; omega
    have h3 := h2 40 (by omega)
    have h4 := setB_at hs (i := 40) (by omega)
    omega
  unfold ofN
  have H0 := Lib.hid (show sumN (fun k => p.ws k * f (p.cs k).toNat) 0 = 0 from rfl)
  generalize sumN (fun k => p.ws k * f (p.cs k).toNat) = SM at *
  obtain ⟨qca, qcn, qcc, qwa, qwn, qwc, qlo, qhi, qcs, qws⟩ := p
  obtain ⟨qm1, qm2, qm3, qm4⟩ := hp
  dsimp only at qm1 qm2 qm3 qm4 hwn HSB HST HW HSA hcn
  dsimp only [BM.val]
  subst hwn
  have HQ3 := Lib.hid qm3
  have HQ4 := Lib.hid qm4
  have HF := Lib.hid hF
  clear qm3 qm4 qm1 qm2 hs hw hf hF
  go_enter Tryd.func69, Tryd.ntmps69
  go_upto_region 1 with (fail)
  have HX := Lib.hid (show BX w.heap.size qca qwn qcc qwa qwn qwc qlo qhi (w.alloc (.cells #[.slice qca qwn qcc, .slice qwa qwn qwc, .int .i64 qlo, .int .i64 qhi] 53)) from BX_new)
  have HB := Lib.hid (show Below w.heap.size w (w.alloc (.cells #[.slice qca qwn qcc, .slice qwa qwn qwc, .int .i64 qlo, .int .i64 qhi] 53)) from (Below.refl _ _).alloc (Nat.le_refl _) _)
  generalize World.alloc w _ = V at *
  have hzV := HB.out.size
  go_wp2
  go_loopw [5, 6] (fun s t wr => ∃ i : Nat, i ≤ qwn ∧ t = .int .i64 (i : Int) ∧ s = .int .i64 (SM i) ∧ Hid (Below w.heap.size w wr ∧ BX w.heap.size qca qwn qcc qwa qwn qwc qlo qhi wr)) (fun _ t _ => qwn - (intOf t).toNat)
  case atStart => exact ⟨0, Nat.zero_le _, rfl, by rw [H0.out], Lib.hid ⟨HB.out, HX.out⟩⟩
  case round =>
    clear HB HX
    obtain ⟨i, hi, rfl, rfl, HR⟩ := hrel
    obtain ⟨x0, x1, x2, x3, x4⟩ := HR.out.2
    have hzr := HR.out.1.size
    by_cases hlt : i < qwn
    · have hlt' : (i : Int) < (qwn : Int) := by omega
      obtain ⟨wb, woff, rfl, hwB, d0⟩ := (HQ4.out.below (HR.out.1.mono hBw)).get hlt
      obtain ⟨cb, coff, rfl, hcB, d1⟩ := (HQ3.out.below (HR.out.1.mono hBw)).get hlt
      obtain ⟨g1, g2⟩ := HSA.out i hlt
      have g3 : (qcs i).toNat < n := by omega
      obtain ⟨fb, foff, rfl, hfB, d2⟩ := (HF.out.below HR.out.1).get g3
      obtain ⟨r1, r2⟩ := HW.out i hlt
      obtain ⟨r3, r4⟩ := HFD.out _ g3
      obtain ⟨r5, r6⟩ := HSB.out i hi
      have HSI := Lib.hid (HST.out i)
      have l1 : wb < wr.heap.size := by omega
      have l2 : cb < wr.heap.size := by omega
      have l3 : fb < wr.heap.size := by omega
      generalize qws i = W at *
      generalize f (qcs i).toNat = F at *
      generalize qcs i = C at *
      have HP := Lib.hid (show 0 ≤ W * F ∧ W * F ≤ 1000000 * 1000 from ⟨Int.mul_nonneg (by omega) (by omega), Int.mul_le_mul (by omega) (by omega) (by omega) (by omega)⟩)
      obtain ⟨p1, p2⟩ := HP.out
      have r7 : SM i ≤ 40000000000 := by omega
      have r8 : SM i + W * F ≤ 50000000000 := by omega
      have r9 : 0 ≤ SM i + W * F := by omega
      generalize hS : SM i = S at *
      have HSS := Lib.hid hS
      clear hS r6
      go_upto_region 5 with (fail)
      (refine wp_region_calm (wr.heap.size) (by kernel_rfl) (by kernel_rfl) ?_; (repeat (first | go_big_quiet_step (fail) | quiet_step (fail))); refine wpQuiet_nil ?_; intro _ hw'; obtain ⟨xq, hw''⟩ := hw'; subst hw'')
      go_wp2
      go_roundw
      case rel => exact ⟨i + 1, by omega, by go_num, by rw [HSI.out], Lib.hid ⟨HR.out.1.trans ((Calm.below _).mono hzr), BX_step HR.out.2 (Calm.below _)⟩⟩
      case measure => simp [intOf]; omega
    · obtain rfl : i = qwn := by omega
      have hlt' : ¬ (i : Int) < (i : Int) := by omega
      go_wp2
      go_ret
      exact ⟨rfl, HR.out.1⟩
theorem agreesB_no {m : Nat} {bs : Nat → BM} {f : Nat → Int} {i : Nat} (hi : i < m) (h : inB (ofN (bs i) f) (bs i).lo (bs i).hi = false) : agreesB m bs f = false := by
  unfold agreesB; rw [allUpto_false hi h]
theorem agreesB_yes {m : Nat} {bs : Nat → BM} {f : Nat → Int} (h : ∀ i, i < m → inB (ofN (bs i) f) (bs i).lo (bs i).hi = true) : agreesB m bs f = true := by
  unfold agreesB; rw [allUpto_true h]
set_option maxRecDepth 100000 in
set_option maxHeartbeats 1000000 in
theorem r8Agrees_any (a : Option Addr) (n c : Nat) (ba : Option Addr) (m bc : Nat) (ss : Nat → SV) (bs : Nat → BM) (fa : Option Addr) (fc : Nat) (f : Nat → Int) (w : World) (B : Nat) (hBw : B ≤ w.heap.size) (hM : Beams B w ba m bs) (hSh : Shape n ss m bs) (hF : Ints w.heap.size w fa n f) (hf : ∀ c, c < n → 0 ≤ f c ∧ f c ≤ 1000) :
    Calls Tryd.prog 57 #[imageV a n c ba m bc, .slice fa n fc] w fun e w' => e = .returned (.bool (agreesB m bs f)) ∧ Below w.heap.size w w' := by
  have hm := hSh.m20
  have hn := hSh.n40
  have HM := Lib.hid hM
  have HF := Lib.hid hF
  have HFD := Lib.hid hf
  have HSH := Lib.hid hSh
  have HNO := Lib.hid (fun (i : Nat) (hi : i < m) (h : inB (ofN (bs i) f) (bs i).lo (bs i).hi = false) => agreesB_no hi h)
  have HYES := Lib.hid (agreesB_yes (m := m) (bs := bs) (f := f))
  generalize agreesB m bs f = RES at *
  clear hM hF hf hSh
  go_enter Tryd.func57, Tryd.ntmps57
  go_upto_region 1 with (fail)
  have HL := Lib.hid (show LI a n c ba m bc w (w.alloc (.cells #[.slice a n c, .slice ba m bc] 25)) from LI_start)
  generalize World.alloc w _ = V at *
  go_wp2
  go_loopw [5] (fun t wr => ∃ i : Nat, i ≤ m ∧ t = .int .i64 (i : Int) ∧ Hid ((∀ j, j < i → inB (ofN (bs j) f) (bs j).lo (bs j).hi = true) ∧ LI a n c ba m bc w wr)) (fun t _ => m - (intOf t).toNat)
  case atStart => exact ⟨0, Nat.zero_le _, rfl, Lib.hid ⟨fun j h => by omega, HL.out⟩⟩
  case round =>
    clear HL
    obtain ⟨i, hi, rfl, HR⟩ := hrel
    obtain ⟨l0, l1, l2, l3⟩ := HR.out.2
    by_cases hlt : i < m
    · have hlt' : (i : Int) < (m : Int) := by omega
      obtain ⟨b, off, rfl, hbB, hat, hmem⟩ := HM.out.get hlt
      obtain ⟨c0, c1, c2, c3⟩ := hat.below (l3.mono hBw) hbB
      have hbz : b < wr.heap.size := by omega
      have HOF := Lib.hid (fun (W : World) (hb : Below wr.heap.size wr W) => r8Of_any (bs i) n fa fc f W B (by have := hb.size; omega) (hmem.below ((l3.trans (hb.mono l3.size)).mono hBw)) ((HF.out.below (l3.trans (hb.mono l3.size))).up (l3.trans (hb.mono l3.size)).size) hn (HSH.out.set i hlt) (HSH.out.wn i hlt) (HSH.out.weight i hlt) HFD.out)
      have HN := Lib.hid (HNO.out i hlt)
      have HA := Lib.hid (fun h j (hj : j < i + 1) => show inB (ofN (bs j) f) (bs j).lo (bs j).hi = true from by (by_cases e : j = i; (subst e; exact h); exact HR.out.1 j (by omega)))
      dsimp only [BM.val] at HOF
      clear hat hmem
      generalize ofN (bs i) f = X at *
      cases h1 : inB X (bs i).lo (bs i).hi
      · have HE := Lib.hid (HN.out h1)
        go_upto_region 4 with (fail)
        (refine wp_region_calm (wr.heap.size) (by kernel_rfl) (by kernel_rfl) ?_; (repeat (first | go_big_quiet_step ((first | (go_at_call 55; exact Calls.calm_same (r8in_any _ _ _ _)) | (go_at_call 69; exact Calls.calm_of (Nat.le_refl _) (HOF.out _ (Calm.below _))))) | quiet_step ((first | (go_at_call 55; exact Calls.calm_same (r8in_any _ _ _ _)) | (go_at_call 69; exact Calls.calm_of (Nat.le_refl _) (HOF.out _ (Calm.below _))))))); refine wpQuiet_nil ?_; intro _ hw'; obtain ⟨xq, hw''⟩ := hw'; subst hw'')
        go_wp2
        go_ret
        exact ⟨ret_bool HE.out.symm, l3.trans ((Calm.below _).mono l3.size)⟩
      · have HE := Lib.hid (HA.out h1)
        go_upto_region 4 with (fail)
        (refine wp_region_calm (wr.heap.size) (by kernel_rfl) (by kernel_rfl) ?_; (repeat (first | go_big_quiet_step ((first | (go_at_call 55; exact Calls.calm_same (r8in_any _ _ _ _)) | (go_at_call 69; exact Calls.calm_of (Nat.le_refl _) (HOF.out _ (Calm.below _))))) | quiet_step ((first | (go_at_call 55; exact Calls.calm_same (r8in_any _ _ _ _)) | (go_at_call 69; exact Calls.calm_of (Nat.le_refl _) (HOF.out _ (Calm.below _))))))); refine wpQuiet_nil ?_; intro _ hw'; obtain ⟨xq, hw''⟩ := hw'; subst hw'')
        go_wp2
        go_roundw
        case rel => exact ⟨i + 1, by omega, by go_num, Lib.hid ⟨HE.out, LI_step HR.out.2 (Calm.below _)⟩⟩
        case measure => simp [intOf]; omega
    · obtain rfl : i = m := by omega
      have hlt' : ¬ (i : Int) < (i : Int) := by omega
      have HE := Lib.hid (HYES.out HR.out.1)
      go_wp2
      go_ret
      exact ⟨ret_bool HE.out.symm, l3⟩
end Go.Proofs.YtoagfopcamcgmaaDoor
