/- Texts put together: HalLaw, RefSi, RefHal0, RefHal, RefHaA. -/
import Derived.Test.YtlfegmjdheddjaaDoorGnA
import Derived.Test.YtlfegmjdheddjaaDoorImNext
import Derived.Test.YtlfegmjdheddjaaDoorGqA
import Derived.Test.YtlfegmjdheddjaaDoorGoA
import Derived.Test.YtlfegmjdheddjaaDoorGsA
import Derived.Test.YtlfegmjdheddjaaDoorGcA
namespace Go.Proofs.YtlfegmjdheddjaaDoor
open Go.RowKit
set_option linter.unusedVariables false
set_option linter.unusedSimpArgs false
/-- what the reference's Halves adds -/
def hlv (n m : Nat) (bs : Nat → BM) : Nat → (Nat → SV) → Nat → List NV
  | 0, _, _ => []
  | k + 1, box, off => match pick n m bs box (cand m) with
    | some p => [⟨-1, 0, 0, listT m (singleT p.1 p.2)⟩]
    | none => if 4000 < off then [] else match wideAt box n with
      | none => []
      | some c => ⟨c, ((box c).lo + (box c).hi) / 2, (off + 1 + (hlv n m bs k (setBox box c ⟨(box c).lo, ((box c).lo + (box c).hi) / 2⟩) (off + 1)).length : Nat), []⟩ ::
          (hlv n m bs k (setBox box c ⟨(box c).lo, ((box c).lo + (box c).hi) / 2⟩) (off + 1) ++
           hlv n m bs k (setBox box c ⟨((box c).lo + (box c).hi) / 2 + 1, (box c).hi⟩) (off + 1 + (hlv n m bs k (setBox box c ⟨(box c).lo, ((box c).lo + (box c).hi) / 2⟩) (off + 1)).length))
theorem hlv_prf {n m : Nat} {ss : Nat → SV} {bs : Nat → BM} (hS : Shape n ss m bs) : ∀ (k : Nat) (box : Nat → SV) (off : Nat), Halved n m bs k box → (off + (prf n m bs k box off).length ≤ 4000 → hlv n m bs k box off = prf n m bs k box off) ∧ (4000 < off + (prf n m bs k box off).length → 4000 < off + (hlv n m bs k box off).length)
  | 0, box, off, h => by
    have h1 := size_pos h.le
    have h2 := h.fuel
    omega
  | k + 1, box, off, h => by
    cases hp : pick n m bs box (cand m) with
    | some p =>
      have e1 : prf n m bs (k + 1) box off = [⟨-1, 0, 0, listT m (singleT p.1 p.2)⟩] := by rw [prf, hp]
      have e2 : hlv n m bs (k + 1) box off = [⟨-1, 0, 0, listT m (singleT p.1 p.2)⟩] := by rw [hlv, hp]
      rw [e1, e2]
      exact ⟨fun _ => rfl, fun h => h⟩
    | none =>
      obtain ⟨c, hw, hc, hl⟩ := h.wide hS hp
      have hL := h.left hc hl
      have hR := h.right hc hl
      have e1 : prf n m bs (k + 1) box off = ⟨c, ((box c).lo + (box c).hi) / 2, (off + 1 + (prf n m bs k (setBox box c ⟨(box c).lo, ((box c).lo + (box c).hi) / 2⟩) (off + 1)).length : Nat), []⟩ ::
          (prf n m bs k (setBox box c ⟨(box c).lo, ((box c).lo + (box c).hi) / 2⟩) (off + 1) ++
           prf n m bs k (setBox box c ⟨((box c).lo + (box c).hi) / 2 + 1, (box c).hi⟩) (off + 1 + (prf n m bs k (setBox box c ⟨(box c).lo, ((box c).lo + (box c).hi) / 2⟩) (off + 1)).length)) := by
        rw [prf, hp]
        dsimp only
        rw [hw]
      by_cases h4 : 4000 < off
      · have e2 : hlv n m bs (k + 1) box off = [] := by
          rw [hlv, hp]
          dsimp only
          rw [if_pos h4]
        rw [e2]
        exact ⟨fun h => by omega, fun _ => by simp; omega⟩
      · have e2 : hlv n m bs (k + 1) box off = ⟨c, ((box c).lo + (box c).hi) / 2, (off + 1 + (hlv n m bs k (setBox box c ⟨(box c).lo, ((box c).lo + (box c).hi) / 2⟩) (off + 1)).length : Nat), []⟩ ::
          (hlv n m bs k (setBox box c ⟨(box c).lo, ((box c).lo + (box c).hi) / 2⟩) (off + 1) ++
           hlv n m bs k (setBox box c ⟨((box c).lo + (box c).hi) / 2 + 1, (box c).hi⟩) (off + 1 + (hlv n m bs k (setBox box c ⟨(box c).lo, ((box c).lo + (box c).hi) / 2⟩) (off + 1)).length)) := by
          rw [hlv, hp]
          dsimp only
          rw [if_neg h4, hw]
        obtain ⟨a1, a2⟩ := hlv_prf hS k _ (off + 1) hL
        rw [e1, e2]
        generalize prf n m bs k (setBox box c ⟨(box c).lo, ((box c).lo + (box c).hi) / 2⟩) (off + 1) = PA at *
        generalize hlv n m bs k (setBox box c ⟨(box c).lo, ((box c).lo + (box c).hi) / 2⟩) (off + 1) = HA at *
        by_cases hA : off + 1 + PA.length ≤ 4000
        · have eA := a1 hA
          subst eA
          obtain ⟨b1, b2⟩ := hlv_prf hS k _ (off + 1 + HA.length) hR
          refine ⟨fun hh => ?_, fun hh => ?_⟩
          · rw [b1 (by simp only [List.length_cons, List.length_append] at hh; omega)]
          · have := b2 (by simp only [List.length_cons, List.length_append] at hh; omega)
            simp only [List.length_cons, List.length_append]
            omega
        · have h5 := a2 (by omega)
          refine ⟨fun hh => by simp only [List.length_cons, List.length_append] at hh; omega, fun _ => ?_⟩
          simp only [List.length_cons, List.length_append]
          omega
theorem hlv_one {n m : Nat} {bs : Nat → BM} : ∀ (k : Nat) (box : Nat → SV) (off : Nat), 4000 < off → (hlv n m bs k box off).length ≤ 1
  | 0, _, _, _ => by simp [hlv]
  | k + 1, box, off, h => by
    rw [hlv]
    cases pick n m bs box (cand m) with
    | some p => simp
    | none => dsimp only; rw [if_pos h]; simp
theorem hlv_len {n m : Nat} {bs : Nat → BM} : ∀ (k : Nat) (box : Nat → SV) (off : Nat), off ≤ 4000 → off + (hlv n m bs k box off).length ≤ 4003 + k
  | 0, _, _, h => by simp [hlv]; omega
  | k + 1, box, off, h => by
    rw [hlv]
    cases pick n m bs box (cand m) with
    | some p => simp; omega
    | none =>
      dsimp only
      rw [if_neg (by omega)]
      cases wideAt box n with
      | none => simp; omega
      | some c =>
        dsimp only
        simp only [List.length_cons, List.length_append]
        have hA : off + 1 + (hlv n m bs k (setBox box c ⟨(box c).lo, ((box c).lo + (box c).hi) / 2⟩) (off + 1)).length ≤ 4003 + k := by
          by_cases h1 : off + 1 ≤ 4000
          · exact hlv_len k _ _ h1
          · have := hlv_one (n := n) (m := m) (bs := bs) k (setBox box c ⟨(box c).lo, ((box c).lo + (box c).hi) / 2⟩) (off + 1) (by omega)
            omega
        generalize hlv n m bs k (setBox box c ⟨(box c).lo, ((box c).lo + (box c).hi) / 2⟩) (off + 1) = HA at *
        by_cases h2 : off + 1 + HA.length ≤ 4000
        · have := hlv_len (n := n) (m := m) (bs := bs) k (setBox box c ⟨((box c).lo + (box c).hi) / 2 + 1, (box c).hi⟩) _ h2
          omega
        · have := hlv_one (n := n) (m := m) (bs := bs) k (setBox box c ⟨((box c).lo + (box c).hi) / 2 + 1, (box c).hi⟩) (off + 1 + HA.length) (by omega)
          omega
end Go.Proofs.YtlfegmjdheddjaaDoor
namespace Go.Proofs.YtlfegmjdheddjaaDoor
open Go.RowKit
set_option linter.unusedVariables false
set_option linter.unusedSimpArgs false
set_option maxRecDepth 100000 in
set_option maxHeartbeats 1000000 in
theorem single_any (m i : Nat) (t : Int) (hi : i < m) (hm : m ≤ 20) (w : World) :
    Calls Tryd.prog 51 #[.int .i64 (m : Int), .int .i64 (i : Int), .int .i64 t] w fun e w' => (∃ b, e = .returned (.slice (some ⟨b, 0, none⟩) m m) ∧ w.heap.size ≤ b ∧ IR 3 w' b m (singleT i t)) ∧ Below w.heap.size w w' := by
  have hmk := make_ints m (by omega)
  have hi' : (i : Int) < (m : Int) := by omega
  go_enter Tryd.func51, Tryd.ntmps51
  go_upto_region 2 with (fail)
  have HI := Lib.hid (IR.made w 3 m)
  have HB := Lib.hid (alloc_below w (.cells (madeCells #[.int .i64 0] m) 3))
  have hz : (w.alloc (.cells (madeCells #[.int .i64 0] m) 3)).heap.size = w.heap.size + 1 := by simp
  clear hmk
  generalize World.alloc w _ = V at *
  have c0 := HI.out.cell hi
  have f0 := HI.out.frozen i
  have HI2 := Lib.hid ((HI.out.set hi t).congr (g := singleT i t) (fun j _ => by unfold singleT; rfl))
  have HB2 := Lib.hid (HB.out.setCell (p := ⟨w.heap.size, i, none⟩) (Nat.le_refl _) (.int .i64 t))
  clear HI HB
  go_wp2
  go_ret
  exact ⟨⟨_, rfl, Nat.le_refl _, HI2.out⟩, HB2.out⟩
set_option maxRecDepth 100000 in
set_option maxHeartbeats 2000000 in
theorem sameProof_any (xa : Option Addr) (xc : Nat) (ya : Option Addr) (yc : Nat) (len : Nat) (ns ps : Nat → NM) (hl : len ≤ 100000) (w : World) (hN : Nodes w.heap.size w xa len ns) (hP : Nodes w.heap.size w ya len ps) (he : ∀ i, i < len → (ps i).cell = (ns i).cell ∧ (ps i).at_ = (ns i).at_ ∧ (ps i).right = (ns i).right ∧ (ps i).tn = (ns i).tn ∧ ∀ j, j < (ns i).tn → (ns i).ts j = (ps i).ts j) :
    Calls Tryd.prog 16 #[.slice xa len xc, .slice ya len yc] w fun e w' => e = .returned (.bool true) ∧ Below w.heap.size w w' := by
  have HN := Lib.hid hN
  have HP := Lib.hid hP
  have HE := Lib.hid he
  have hll : ((len : Int) != (len : Int)) = false := by simp
  clear hN hP he
  go_enter Tryd.func16, Tryd.ntmps16
  go_wp2
  go_loopw [5] (fun t wr => ∃ i : Nat, i ≤ len ∧ t = .int .i64 (i : Int) ∧ Hid (Below w.heap.size w wr)) (fun t _ => len - (intOf t).toNat)
  case atStart => exact ⟨0, Nat.zero_le _, rfl, Lib.hid (Below.refl _ _)⟩
  case round =>
    obtain ⟨i, hi, rfl, HB⟩ := hrel
    by_cases hlt : i < len
    · have hlt' : (i : Int) < (len : Int) := by omega
      rcases HN.out.below HB.out with h0 | ⟨b, off, rfl, hbB, hc⟩
      · omega
      rcases HP.out.below HB.out with h0 | ⟨b2, off2, rfl, hbB2, hc2⟩
      · omega
      obtain ⟨⟨c0, c1, c2, c3⟩, hm1, hI1⟩ := hc i hlt
      obtain ⟨⟨d0, d1, d2, d3⟩, hm2, hI2⟩ := hc2 i hlt
      obtain ⟨e0, e1, e2, e3, e4⟩ := HE.out i hlt
      rw [e0] at d0
      rw [e1] at d1
      rw [e2] at d2
      rw [e3] at d3 hI2
      have hzz := HB.out.size
      have hbz : b < wr.heap.size := by omega
      have hbz2 : b2 < wr.heap.size := by omega
      have HSM := Lib.hid (fun (W : World) (hb : Below wr.heap.size wr W) => (Same_any (ns i).ta (ps i).ta (ns i).tn (ns i).tn (ns i).tc (ps i).tc (ns i).ts (ps i).ts W w.heap.size (by have := hb.size; omega) (hI1.below (hb.mono hzz)) (hI2.below (hb.mono hzz)) hm1 hm1).mono (R' := fun e w' => e = .returned (.bool true) ∧ Below W.heap.size W w') fun e w' h => by
        rw [sameB_iff.2 ⟨rfl, e4⟩] at h
        exact h)
      clear hc hc2 hI1 hI2 e0 e1 e2 e3 e4 hm1 hm2
      generalize (ns i).cell = A0 at *
      generalize (ns i).at_ = A1 at *
      generalize (ns i).right = A2 at *
      generalize (ns i).ta = A3 at *
      generalize (ns i).tn = A4 at *
      generalize (ns i).tc = A5 at *
      generalize (ps i).ta = B3 at *
      generalize (ps i).tc = B5 at *
      have q0 : (A0 != A0) = false := by simp
      have q1 : (A1 != A1) = false := by simp
      have q2 : (A2 != A2) = false := by simp
      go_upto_region 6 with (fail)
      (refine wp_region_calm (wr.heap.size) (by kernel_rfl) (by kernel_rfl) ?_; (repeat (first | go_big_quiet_step ((go_at_call 26; exact Calls.calm_of (Nat.le_refl _) (HSM.out _ (Calm.below _)))) | quiet_step ((go_at_call 26; exact Calls.calm_of (Nat.le_refl _) (HSM.out _ (Calm.below _)))))); refine wpQuiet_nil ?_; intro _ hw'; obtain ⟨xq, hw''⟩ := hw'; subst hw'')
      go_wp2
      go_roundw
      case rel => exact ⟨i + 1, by omega, by go_num, Lib.hid (HB.out.trans ((Calm.below _).mono hzz))⟩
      case measure => simp [intOf]; omega
    · obtain rfl : i = len := by omega
      have hlt' : ¬ (i : Int) < (i : Int) := by omega
      go_wp2
      go_ret
      exact ⟨rfl, HB.out⟩
end Go.Proofs.YtlfegmjdheddjaaDoor
namespace Go.Proofs.YtlfegmjdheddjaaDoor
open Go.RowKit
set_option linter.unusedVariables false
set_option linter.unusedSimpArgs false
/-- where the numbers of a node lie -/
def TN (base m : Nat) (v : Value) (W : World) (x : NM) : Prop := (x.ta = none ∧ x.tn = 0 ∧ x.tc = 0) ∨ ∃ b, x.ta = some ⟨b, 0, none⟩ ∧ x.tn = m ∧ x.tc = m ∧ base ≤ b ∧ b < W.heap.size ∧ v.ownBlock ≠ some b ∧ IR 3 W b m x.ts
structure ON (base m : Nat) (v : Value) (W : World) (L : List NM) : Prop where
  own : W.ownsRow base 82 4 v L.length (nmC L)
  times : ∀ x ∈ L, TN base m v W x
section
variable {base m : Nat} {v v' : Value} {W W' : World} {L : List NM}
theorem TN.keep {x : NM} (h : TN base m v W x) (hz : W.heap.size ≤ W'.heap.size) (hk : ∀ b, b < W.heap.size → v.ownBlock ≠ some b → W'.heap[b]? = W.heap[b]?) (hv : ∀ b, b < W.heap.size → v.ownBlock ≠ some b → v'.ownBlock ≠ some b) : TN base m v' W' x := by
  rcases h with h | ⟨b, h1, h2, h3, h4, h5, h6, h7⟩
  · exact .inl h
  · exact .inr ⟨b, h1, h2, h3, h4, by omega, hv b h5 h6, h7.block (hk b h5 h6)⟩
theorem ON.step (h : ON base m v W L) (hb : Below W.heap.size W W') : ON base m v W' L :=
  ⟨own_below h.own hb, fun x hx => (h.times x hx).keep hb.size (fun b h1 _ => hb.block b h1) (fun _ _ h => h)⟩
theorem ON.ownlt (h : ON base m v W L) : ∀ b, v.ownBlock = some b → base ≤ b ∧ b < W.heap.size := fun b hb => h.own.lt b hb
theorem ON.nil (base m : Nat) (W : World) : ON base m (.slice none 0 0) W [] := ⟨World.ownsRow_nil _ _ _ _, fun x hx => by cases hx⟩
/-- a node more -/
theorem ON.push {W3 W5 : World} {x : NM} {g cap : Nat} {o : Obj} (h : ON base m v W L) (hbase : base ≤ W.heap.size) (h3 : Below W.heap.size W W3)
    (hx : (x.ta = none ∧ x.tn = 0 ∧ x.tc = 0) ∨ ∃ b, x.ta = some ⟨b, 0, none⟩ ∧ x.tn = m ∧ x.tc = m ∧ W.heap.size ≤ b ∧ IR 3 W3 b m x.ts)
    (ho : W5.ownsRow base 82 4 (.slice (some ⟨g, 0, none⟩) (L.length + 1) cap) (L.length + 1) (nmC L ++ x.cells)) (hg : (W3.alloc o).grownBy W5 v.ownBlock) (hat : v.ownBlock = some g ∨ g = (W3.alloc o).heap.size) :
    ON base m (.slice (some ⟨g, 0, none⟩) (L.length + 1) cap) W5 (L ++ [x]) ∧ W.grownBy W5 v.ownBlock ∧ ((Value.slice (some ⟨g, 0, none⟩) (L.length + 1) cap).ownBlock = v.ownBlock ∨ ∃ b, (Value.slice (some ⟨g, 0, none⟩) (L.length + 1) cap).ownBlock = some b ∧ W.heap.size ≤ b) := by
  have hz3 := h3.size
  have hz4 : (W3.alloc o).heap.size = W3.heap.size + 1 := by simp
  have hz5 := hg.size
  have hol := h.ownlt
  have keep3 : ∀ b, b < W3.heap.size → v.ownBlock ≠ some b → W5.heap[b]? = W3.heap[b]? := fun b h1 h2 => (hg.block b (by omega) (Ne.symm h2)).trans (Below.heap_alloc W3 o b h1)
  have keep : ∀ b, b < W.heap.size → v.ownBlock ≠ some b → W5.heap[b]? = W.heap[b]? := fun b h1 h2 => (keep3 b (by omega) h2).trans (h3.block b h1)
  refine ⟨⟨?_, fun y hy => ?_⟩, ⟨hg.os.trans h3.os, hg.tape.trans h3.tape, hg.output.trans h3.output, by omega, fun b h1 h2 => keep b h1 (Ne.symm h2)⟩, ?_⟩
  · rw [nmC_append, nmC_one, List.length_append, List.length_singleton]
    exact ho
  · rw [List.mem_append, List.mem_singleton] at hy
    rcases hy with hy | rfl
    · refine (h.times y hy).keep (by omega) keep (fun b h1 h2 e => ?_)
      have e' : g = b := by simpa [Value.ownBlock] using e
      rcases hat with q | q
      · exact h2 (by rw [q, e'])
      · omega
    · rcases hx with hx | ⟨b, h1, h2, h4, h5, h6⟩
      · exact .inl hx
      · have hb3 := h6.lt
        have hne : v.ownBlock ≠ some b := fun e => by have := (hol b e).2; omega
        refine .inr ⟨b, h1, h2, h4, by omega, by omega, fun e => ?_, h6.block (keep3 b hb3 hne)⟩
        have e' : g = b := by simpa [Value.ownBlock] using e
        rcases hat with q | q
        · exact hne (by rw [q, e'])
        · omega
  · rcases hat with q | q
    · exact .inl (by rw [q]; rfl)
    · exact .inr ⟨g, rfl, by omega⟩
end
/-- all blocks are kept but the row's own -/
structure Kp (W : World) (v : Value) (W' : World) (v' : Value) : Prop where
  grown : W.grownBy W' v.ownBlock
  own : v'.ownBlock = v.ownBlock ∨ ∃ b, v'.ownBlock = some b ∧ W.heap.size ≤ b
theorem Kp.ne {W W' : World} {v v' : Value} (h : Kp W v W' v') {b : Nat} (hb : b < W.heap.size) (hn : v.ownBlock ≠ some b) : v'.ownBlock ≠ some b := fun e => by
  rcases h.own with q | ⟨g, q, hg⟩
  · exact hn (q ▸ e)
  · rw [q] at e
    injection e with e
    omega
theorem Kp.kept {W W' : World} {v v' : Value} (h : Kp W v W' v') {b : Nat} (hb : b < W.heap.size) (hn : v.ownBlock ≠ some b) : W'.heap[b]? = W.heap[b]? := h.grown.block b hb (Ne.symm hn)
theorem Kp.cell {W W' : World} {v v' : Value} (h : Kp W v W' v') {b o : Nat} (hb : b < W.heap.size) (hn : v.ownBlock ≠ some b) : W'.cell? ⟨b, o, none⟩ = W.cell? ⟨b, o, none⟩ := World.cell?_of_block (h.kept hb hn)
theorem Kp.of_below {W W' : World} {v : Value} (hb : Below W.heap.size W W') : Kp W v W' v := ⟨⟨hb.os, hb.tape, hb.output, hb.size, fun b hl _ => hb.block b hl⟩, .inl rfl⟩
theorem Kp.trans {W W1 W2 : World} {v v1 v2 : Value} (h : Kp W v W1 v1) (k : Kp W1 v1 W2 v2) : Kp W v W2 v2 := by
  have hz := h.grown.size
  refine ⟨⟨k.grown.os.trans h.grown.os, k.grown.tape.trans h.grown.tape, k.grown.output.trans h.grown.output, Nat.le_trans hz k.grown.size, fun b hb hn => ?_⟩, ?_⟩
  · exact (k.kept (by omega) (h.ne hb (Ne.symm hn))).trans (h.kept hb (Ne.symm hn))
  · rcases k.own with q | ⟨g, q, hg⟩
    · rcases h.own with p | ⟨g, p, hg⟩
      · exact .inl (q.trans p)
      · exact .inr ⟨g, q.trans p, hg⟩
    · exact .inr ⟨g, q, by omega⟩
theorem Kp.below {W W' : World} {v v' : Value} (h : Kp W v W' v') {B : Nat} (hB : B ≤ W.heap.size) (hv : ∀ b, v.ownBlock = some b → B ≤ b) : Below B W W' :=
  ⟨h.grown.os, h.grown.tape, h.grown.output, h.grown.size, fun b hb => h.kept (by omega) (fun e => by have := hv b e; omega)⟩
theorem nmC_right (a b : List NM) (x : NM) (r : Int) : (nmC (a ++ x :: b)).set (a.length * 4 + 2) (.int .i64 r) = nmC (a ++ { x with right := r } :: b) := by
  rw [nmC_append, nmC_append, nmC, nmC]
  have hl := nmC_len a
  rw [List.set_append_right _ _ (by omega)]
  rw [hl, show a.length * 4 + 2 - a.length * 4 = 2 by omega]
  rfl
/-- a node's right part set -/
theorem ON.putR {base m : Nat} {W : World} {a b : List NM} {x : NM} {g c : Nat} (h : ON base m (.slice (some ⟨g, 0, none⟩) (a ++ x :: b).length c) W (a ++ x :: b)) (r : Int) :
    ON base m (.slice (some ⟨g, 0, none⟩) (a ++ x :: b).length c) (W.setCell ⟨g, a.length * 4 + 2, none⟩ (.int .i64 r)) (a ++ { x with right := r } :: b) ∧ Kp W (.slice (some ⟨g, 0, none⟩) (a ++ x :: b).length c) (W.setCell ⟨g, a.length * 4 + 2, none⟩ (.int .i64 r)) (.slice (some ⟨g, 0, none⟩) (a ++ x :: b).length c) := by
  have hl : (a ++ { x with right := r } :: b).length = (a ++ x :: b).length := by simp
  have f4 := set_frame W ⟨g, a.length * 4 + 2, none⟩ (.int .i64 r)
  have keep : ∀ b', b' < W.heap.size → (Value.slice (some ⟨g, 0, none⟩) (a ++ x :: b).length c).ownBlock ≠ some b' → (W.setCell ⟨g, a.length * 4 + 2, none⟩ (.int .i64 r)).heap[b']? = W.heap[b']? := fun b' _ h2 => heap_setCell_other W ⟨g, a.length * 4 + 2, none⟩ b' _ (fun e => h2 (by simp [Value.ownBlock, show b' = g from e]))
  refine ⟨⟨?_, fun z hz => ?_⟩, ⟨f4.os, f4.tape, f4.output, f4.size, fun b' h1 h2 => keep b' h1 (Ne.symm h2)⟩, .inl rfl⟩
  · rw [hl, ← nmC_right]
    exact own_set h.own (by simp; omega) _
  · have hx : ∀ y ∈ a ++ x :: b, TN base m (.slice (some ⟨g, 0, none⟩) (a ++ x :: b).length c) (W.setCell ⟨g, a.length * 4 + 2, none⟩ (.int .i64 r)) y := fun y hy => (h.times y hy).keep (by simp) keep (fun _ _ h => h)
    rw [List.mem_append, List.mem_cons] at hz
    rcases hz with hz | rfl | hz
    · exact hx z (by simp [hz])
    · exact hx x (by simp)
    · exact hx z (by simp [hz])
theorem ON.size {base m : Nat} {W : World} {L : List NM} {a : Option Addr} {N c : Nat} (h : ON base m (.slice a N c) W L) : N = L.length := by
  obtain ⟨a', c', e⟩ := own_len h.own
  injection e
theorem ON.slot {base m : Nat} {W : World} {a b : List NM} {x : NM} {g c N len : Nat} (h : ON base m (.slice (some ⟨g, 0, none⟩) N c) W (a ++ x :: b)) (hl : a.length = len) :
    W.cell? ⟨g, len * 4 + 2, none⟩ = some (.int .i64 x.right) ∧ W.frozen? ⟨g, len * 4 + 2, none⟩ = false := by
  obtain rfl := h.size
  subst hl
  refine ⟨?_, h.own.frozenAt _⟩
  rw [h.own.cellAt (a.length * 4 + 2) (by simp; omega), nmC_get _ _ _ nm0 (by simp) (by omega)]
  simp [NM.cells]
theorem ON.putR' {base m : Nat} {W : World} {a b : List NM} {x : NM} {g c N len : Nat} (h : ON base m (.slice (some ⟨g, 0, none⟩) N c) W (a ++ x :: b)) (hl : a.length = len) (r : Int) :
    ON base m (.slice (some ⟨g, 0, none⟩) N c) (W.setCell ⟨g, len * 4 + 2, none⟩ (.int .i64 r)) (a ++ { x with right := r } :: b) ∧ Kp W (.slice (some ⟨g, 0, none⟩) N c) (W.setCell ⟨g, len * 4 + 2, none⟩ (.int .i64 r)) (.slice (some ⟨g, 0, none⟩) N c) := by
  obtain rfl := h.size
  subst hl
  exact h.putR r
theorem nodesL_mem {L : List NM} {i : Nat} (hi : i < L.length) : nodesL L i ∈ L := by
  unfold nodesL
  rw [List.getD_eq_getElem?_getD, List.getElem?_eq_getElem hi]
  exact List.getElem_mem hi
/-- the nodes as they lie in memory -/
theorem ON.nodes {base m : Nat} {a : Option Addr} {c : Nat} {W : World} {L : List NM} (h : ON base m (.slice a L.length c) W L) (hm : m ≤ maxLen) : Nodes W.heap.size W a L.length (nodesL L) := by
  by_cases hl : L.length = 0
  · exact .inl hl
  obtain ⟨g, rfl, h1, h2⟩ := own_at h.own (by omega)
  refine .inr ⟨g, 0, rfl, h2, fun i hi => ?_⟩
  have hc : ∀ r, r < 4 → W.cell? ⟨g, 0 + i * 4 + r, none⟩ = (nodesL L i).cells[r]? := fun r hr => by
    rw [Nat.zero_add, h.own.cellAt (i * 4 + r) (by omega)]
    exact nmC_get L i r nm0 hi hr
  refine ⟨⟨hc 0 (by omega), hc 1 (by omega), hc 2 (by omega), hc 3 (by omega)⟩, ?_⟩
  rcases h.times _ (nodesL_mem hi) with ⟨e1, e2, e3⟩ | ⟨b, e1, e2, e3, e4, e5, e6, e7⟩
  · rw [e2]; exact ⟨Nat.zero_le _, .inl rfl⟩
  · rw [e2, e1]
    exact ⟨hm, .inr ⟨b, 0, rfl, e7.lt, fun k hk => by rw [Nat.zero_add]; exact e7.cell hk⟩⟩
/-- equal nodes -/
theorem nv_eq {L L' : List NM} (h : L.map NM.nv = L'.map NM.nv) : L'.length = L.length ∧ ∀ i, i < L.length → (nodesL L' i).cell = (nodesL L i).cell ∧ (nodesL L' i).at_ = (nodesL L i).at_ ∧ (nodesL L' i).right = (nodesL L i).right ∧ (nodesL L' i).tn = (nodesL L i).tn ∧ ∀ j, j < (nodesL L i).tn → (nodesL L i).ts j = (nodesL L' i).ts j := by
  have hl : L'.length = L.length := by simpa using (congrArg List.length h).symm
  refine ⟨hl, fun i hi => ?_⟩
  have e : (nodesL L i).nv = (nodesL L' i).nv := by
    have h1 := congrArg (fun l => l[i]?) h
    simp only [List.getElem?_map, List.getElem?_eq_getElem hi, List.getElem?_eq_getElem (show i < L'.length by omega), Option.map_some, Option.some.injEq] at h1
    unfold nodesL
    rw [List.getD_eq_getElem?_getD, List.getD_eq_getElem?_getD, List.getElem?_eq_getElem hi, List.getElem?_eq_getElem (show i < L'.length by omega)]
    exact h1
  obtain ⟨a1, a2, a3, a4, a5⟩ := nv_is e
  obtain ⟨b1, b2, b3, b4, b5⟩ := nv_is (x := nodesL L' i) rfl
  have hn : (nodesL L' i).tn = (nodesL L i).tn := by rw [a4, b4]
  exact ⟨by rw [a1, b1], by rw [a2, b2], by rw [a3, b3], hn, fun j hj => by rw [a5 j hj]; exact (b5 j (by omega)).symm⟩
theorem spans_blk {W W' : World} {b off n : Nat} {f : Nat → SV} (h : Spans W.heap.size W (some ⟨b, off, none⟩) n f) (hb : W'.heap[b]? = W.heap[b]?) (hz : b < W'.heap.size) : Spans W'.heap.size W' (some ⟨b, off, none⟩) n f := by
  refine ⟨h.1, ?_⟩
  rcases h.2 with h0 | ⟨b2, off2, e, h1, h2⟩
  · exact .inl h0
  · injection e with e
    injection e with e1 e2
    subst e1 e2
    exact .inr ⟨b, off, rfl, hz, fun i hi => ⟨(World.cell?_of_block hb).trans (h2 i hi).1, (World.cell?_of_block hb).trans (h2 i hi).2⟩⟩
/-- what Halves hands back -/
def HalRes (base n m : Nat) (bs : Nat → BM) (k : Nat) (box : Nat → SV) (v : Value) (L : List NM) (W : World) (e : Ending) (W' : World) : Prop :=
  ∃ v' L1, e = .returned v' ∧ ON base m v' W' (L ++ L1) ∧ L1.map NM.nv = hlv n m bs k box L.length ∧ W.grownBy W' v.ownBlock ∧ (v'.ownBlock = v.ownBlock ∨ ∃ b, v'.ownBlock = some b ∧ W.heap.size ≤ b)
/-- the call of Halves -/
def HalOk (B base n : Nat) (ss : Nat → SV) (m : Nat) (bs : Nat → BM) (a : Option Addr) (c : Nat) (ba : Option Addr) (bc : Nat) (k : Nat) : Prop :=
  ∀ (xa : Option Addr) (xc : Nat) (box : Nat → SV) (v : Value) (L : List NM) (W : World), Halved n m bs k box → BoxOk n box → L.length ≤ 44100 → Beams B W ba m bs → B ≤ base → base ≤ W.heap.size → Spans W.heap.size W xa n box → (∀ b off, xa = some ⟨b, off, none⟩ → v.ownBlock ≠ some b) → ON base m v W L →
    Calls Tryd.prog 15 #[imageV a n c ba m bc, .slice xa n xc, v] W (HalRes base n m bs k box v L W)
end Go.Proofs.YtlfegmjdheddjaaDoor
namespace Go.Proofs.YtlfegmjdheddjaaDoor
open Go.RowKit
set_option linter.unusedVariables false
set_option linter.unusedSimpArgs false
theorem node_one {x y z : Int} {a : Option Addr} {p q : Nat} : ∀ u ∈ [Value.int .i64 x, .int .i64 y, .int .i64 z, .slice a p q], u.oneCell' = true := by
  intro u hu
  simp at hu
  rcases hu with rfl | rfl | rfl | rfl <;> rfl
set_option maxRecDepth 100000 in
set_option maxHeartbeats 4000000 in
theorem hal_node (B base n : Nat) (ss : Nat → SV) (m : Nat) (bs : Nat → BM) (a : Option Addr) (c : Nat) (ba : Option Addr) (bc : Nat) (hSh : Shape n ss m bs) (k : Nat) (hk : k ≤ 40001) (ih : HalOk B base n ss m bs a c ba bc k) : HalOk B base n ss m bs a c ba bc (k + 1) := by
  intro xa xc box v L W hH hBx hL hM hB1 hbase hX hXv hO
  obtain ⟨va, vc, rfl⟩ := own_len hO.own
  have hm20 := hSh.m20
  have hn40 := hSh.n40
  have hBW : B ≤ W.heap.size := by omega
  have HR1 := Lib.hid (fun (i : Nat) (t : Int) (W' : World) (v' : Value) (x : NM) (hp : pick n m bs box (cand m) = some (i, t)) (hx : x.nv = ⟨-1, 0, 0, listT m (singleT i t)⟩) (h1 : ON base m v' W' (L ++ [x])) (h2 : W.grownBy W' (Value.slice va L.length vc).ownBlock) (h3 : v'.ownBlock = (Value.slice va L.length vc).ownBlock ∨ ∃ b, v'.ownBlock = some b ∧ W.heap.size ≤ b) => show HalRes base n m bs (k + 1) box (.slice va L.length vc) L W (.returned v') W' from ⟨v', [x], rfl, h1, by rw [hlv, hp]; simp [hx], h2, h3⟩)
  have HR2 := Lib.hid (fun (W' : World) (hp : pick n m bs box (cand m) = none) (h4 : 4000 < L.length) (hb : Below W.heap.size W W') => show HalRes base n m bs (k + 1) box (.slice va L.length vc) L W (.returned (.slice va L.length vc)) W' from ⟨_, [], rfl, by rw [List.append_nil]; exact hO.step hb, by rw [hlv, hp]; dsimp only; rw [if_pos h4]; rfl, ⟨hb.os, hb.tape, hb.output, hb.size, fun b hl _ => hb.block b hl⟩, .inl rfl⟩)
  have HR3 := Lib.hid (fun (W' : World) (v' : Value) (cw : Nat) (L1 L2 : List NM) (hp : pick n m bs box (cand m) = none) (h4 : ¬ 4000 < L.length) (hw : wideAt box n = some cw) (e1 : L1.map NM.nv = hlv n m bs k (setBox box cw ⟨(box cw).lo, ((box cw).lo + (box cw).hi) / 2⟩) (L.length + 1)) (e2 : L2.map NM.nv = hlv n m bs k (setBox box cw ⟨((box cw).lo + (box cw).hi) / 2 + 1, (box cw).hi⟩) (L.length + 1 + L1.length)) (h1 : ON base m v' W' (L ++ ⟨(cw : Int), ((box cw).lo + (box cw).hi) / 2, ((L.length + 1 + L1.length : Nat) : Int), none, 0, 0, fun _ => 0⟩ :: (L1 ++ L2))) (h2 : Kp W (Value.slice va L.length vc) W' v') => show HalRes base n m bs (k + 1) box (.slice va L.length vc) L W (.returned v') W' from ⟨v', ⟨(cw : Int), ((box cw).lo + (box cw).hi) / 2, ((L.length + 1 + L1.length : Nat) : Int), none, 0, 0, fun _ => 0⟩ :: (L1 ++ L2), rfl, h1, by
    have hlen : L1.length = (hlv n m bs k (setBox box cw ⟨(box cw).lo, ((box cw).lo + (box cw).hi) / 2⟩) (L.length + 1)).length := by rw [← e1, List.length_map]
    rw [hlv, hp]
    dsimp only
    rw [if_neg h4, hw]
    dsimp only
    rw [List.map_cons, List.map_append, e1, e2, hlen]
    rfl, h2.grown, h2.own⟩)
  generalize HalRes base n m bs (k + 1) box (.slice va L.length vc) L W = RES at *
  have HRF := Lib.hid (fun (i : Nat) (t : Int) (ht : t = 1 ∨ t = -1) (W' : World) (hb : Below W.heap.size W W') (b : Nat) (hir : IR 3 W' b m (singleT i t)) => r8Refutes_any a n c ba m bc ss bs xa xc box (some ⟨b, 0, none⟩) m (singleT i t) W' B (by have := hb.size; omega) (hM.below (hb.mono hBW)) hSh ((hX.below hb).up hb.size) (.inr ⟨b, 0, rfl, hir.lt, fun j hj => by rw [Nat.zero_add]; exact hir.cell hj⟩) hBx (singleT_ok ht))
  obtain ⟨j0, hj0, hz0, hz1, hz2⟩ := info_parts info_node
  have HO := Lib.hid hO
  have HX := Lib.hid hX
  have HM := Lib.hid hM
  have HIH := Lib.hid ih
  have HBX := Lib.hid hBx
  have HHV := Lib.hid hH
  have HXV := Lib.hid hXv
  obtain ⟨l, hl⟩ : ∃ l, L.length = l := ⟨_, rfl⟩
  have HLL := Lib.hid hl
  rw [hl] at HR1 HR2 HR3 HO hL ⊢
  have hb63 : l + 1 ≤ maxLen := by unfold maxLen; omega
  have hb47 : (l + 1) * 48 ≤ 140737488355328 := by omega
  clear hO hX hM ih hBx hH hXv hl
  go_enter Tryd.func15, Tryd.ntmps15
  go_upto_region 1 with (fail)
  have HL := Lib.hid (show LI a n c ba m bc W (W.alloc (.cells #[.slice a n c, .slice ba m bc] 25)) from LI_start)
  generalize World.alloc W _ = V at *
  obtain ⟨l0, l1, l2, l3⟩ := HL.out
  go_wp2
  go_loopw [7] (fun t wr => ∃ i : Nat, i ≤ m ∧ t = .int .i64 (i : Int) ∧ Hid (pick n m bs box (cand i) = none ∧ LI a n c ba m bc W wr)) (fun t _ => m - (intOf t).toNat)
  case atStart => exact ⟨0, Nat.zero_le _, rfl, Lib.hid ⟨rfl, HL.out⟩⟩
  case round =>
    clear HL l0 l1 l2 l3
    obtain ⟨i, hi, rfl, HQ⟩ := hrel
    have HL := Lib.hid HQ.out.2
    obtain ⟨l0, l1, l2, l3⟩ := HL.out
    by_cases hlt : i < m
    · have hlt' : (i : Int) < (m : Int) := by omega
      have HU := Lib.hid (pick_up hlt HQ.out.1)
      have HF1 := HRF.out i 1 (.inl rfl)
      have HF2 := HRF.out i (-1) (.inr rfl)
      go_wp2
      go_loopw [8] (fun t wx => ∃ j : Nat, ((j = 0 ∧ t = .int .i64 1) ∨ (j = 1 ∧ t = .int .i64 (-1)) ∨ (j = 2 ∧ t = .int .i64 (-3))) ∧ Hid ((0 < j → refutesB n m bs box (singleT i 1) = false) ∧ (1 < j → refutesB n m bs box (singleT i (-1)) = false) ∧ LI a n c ba m bc W wx)) (fun t _ => (intOf t + 3).toNat)
      case atStart => exact ⟨0, .inl ⟨rfl, rfl⟩, Lib.hid ⟨fun h => by omega, fun h => by omega, HL.out⟩⟩
      case round =>
        clear HL l0 l1 l2 l3
        obtain ⟨j, hj, HJ⟩ := hrel
        have HL := Lib.hid HJ.out.2.2
        obtain ⟨l0, l1, l2, l3⟩ := HL.out
        rcases hj with ⟨rfl, rfl⟩ | ⟨rfl, rfl⟩ | ⟨rfl, rfl⟩
        · cases hr : refutesB n m bs box (singleT i 1)
          · rw [hr] at HF1
            have HRR := Lib.hid hr
            clear hr
            go_wp2_with (first | (go_at_call 51; refine (single_any m i 1 hlt hm20 _).mono ?_; rintro e w2 ⟨⟨xb, rfl, hxb, hir⟩, hb2⟩; have HIR := Lib.hid hir; have hxw := Nat.le_trans l3.size hxb; clear hir hxb; have HLx := Lib.hid (LI_step HL.out hb2); clear HL; have HL := HLx; clear HLx; (try clear l0 l1 l2 l3); obtain ⟨l0, l1, l2, l3⟩ := HL.out; clear hb2) | (go_at_call 52; refine (HF1 _ l3 _ HIR.out).mono ?_; rintro e w3 ⟨rfl, hb3⟩; have HIx := Lib.hid (HIR.out.step hb3); clear HIR; have HIR := HIx; clear HIx; have HLx := Lib.hid (LI_step HL.out hb3); clear HL; have HL := HLx; clear HLx; (try clear l0 l1 l2 l3); obtain ⟨l0, l1, l2, l3⟩ := HL.out; clear hb3))
            go_roundw
            case rel => exact ⟨1, .inr (.inl ⟨rfl, rfl⟩), Lib.hid ⟨fun _ => (by first | trivial | exact HRR.out), fun h => by omega, HL.out⟩⟩
            case measure => simp [intOf]
          · rw [hr] at HF1
            have HPK := Lib.hid (HU.out.1 hr)
            clear hr
            go_wp2_with (first | (go_at_call 51; refine (single_any m i 1 hlt hm20 _).mono ?_; rintro e w2 ⟨⟨xb, rfl, hxb, hir⟩, hb2⟩; have HIR := Lib.hid hir; have hxw := Nat.le_trans l3.size hxb; clear hir hxb; have HLx := Lib.hid (LI_step HL.out hb2); clear HL; have HL := HLx; clear HLx; (try clear l0 l1 l2 l3); obtain ⟨l0, l1, l2, l3⟩ := HL.out; clear hb2) | (go_at_call 52; refine (HF1 _ l3 _ HIR.out).mono ?_; rintro e w3 ⟨rfl, hb3⟩; have HIx := Lib.hid (HIR.out.step hb3); clear HIR; have HIR := HIx; clear HIx; have HLx := Lib.hid (LI_step HL.out hb3); clear HL; have HL := HLx; clear HLx; (try clear l0 l1 l2 l3); obtain ⟨l0, l1, l2, l3⟩ := HL.out; clear hb3) | (at_builtin; have HON := Lib.hid ((HO.out.step l3).own.alloc (.cells #[.int .i64 (-1), .int .i64 0, .int .i64 0, .slice (some ⟨xb, 0, none⟩) m m] 82)); rw [HLL.out] at HON; refine wpList_append_lies _ rfl _ _ 28 rfl base 82 j0 _ 4 48 Tryd.underlying28 hj0 hz0 hz1 hz2 rfl (by decide) (.slice va l vc) l (nmC L) rfl HON.out ⟨w3.heap.size, 0, none⟩ 1 1 [.int .i64 (-1), .int .i64 0, .int .i64 0, .slice (some ⟨xb, 0, none⟩) m m] rfl rfl (World.news_of_block (heap_alloc_new w3 (.cells #[.int .i64 (-1), .int .i64 0, .int .i64 0, .slice (some ⟨xb, 0, none⟩) m m] 82))) node_one (by decide) hb63 hb47 (by have := l3.size; simp; omega) _ rfl ?_; intro g p W5 hown hgrow hat hlt5))
            have HPS := Lib.hid (HO.out.push (x := ⟨-1, 0, 0, some ⟨xb, 0, none⟩, m, m, singleT i 1⟩) hbase l3 (.inr ⟨xb, rfl, rfl, rfl, hxw, HIR.out⟩) (by rw [HLL.out]; exact hown) hgrow hat); rw [HLL.out] at HPS; clear hown hgrow hat HON; go_wp2; exact HR1.out i 1 _ _ _ HPK.out rfl HPS.out.1 HPS.out.2.1 HPS.out.2.2
        · have HRA := Lib.hid (HJ.out.1 (by omega))
          cases hr : refutesB n m bs box (singleT i (-1))
          · rw [hr] at HF2
            have HRR := Lib.hid hr
            clear hr
            go_wp2_with (first | (go_at_call 51; refine (single_any m i (-1) hlt hm20 _).mono ?_; rintro e w2 ⟨⟨xb, rfl, hxb, hir⟩, hb2⟩; have HIR := Lib.hid hir; have hxw := Nat.le_trans l3.size hxb; clear hir hxb; have HLx := Lib.hid (LI_step HL.out hb2); clear HL; have HL := HLx; clear HLx; (try clear l0 l1 l2 l3); obtain ⟨l0, l1, l2, l3⟩ := HL.out; clear hb2) | (go_at_call 52; refine (HF2 _ l3 _ HIR.out).mono ?_; rintro e w3 ⟨rfl, hb3⟩; have HIx := Lib.hid (HIR.out.step hb3); clear HIR; have HIR := HIx; clear HIx; have HLx := Lib.hid (LI_step HL.out hb3); clear HL; have HL := HLx; clear HLx; (try clear l0 l1 l2 l3); obtain ⟨l0, l1, l2, l3⟩ := HL.out; clear hb3))
            go_roundw
            case rel => exact ⟨2, .inr (.inr ⟨rfl, rfl⟩), Lib.hid ⟨fun _ => HRA.out, fun _ => (by first | trivial | exact HRR.out), HL.out⟩⟩
            case measure => simp [intOf]
          · rw [hr] at HF2
            have HPK := Lib.hid (HU.out.2.1 HRA.out hr)
            clear hr
            go_wp2_with (first | (go_at_call 51; refine (single_any m i (-1) hlt hm20 _).mono ?_; rintro e w2 ⟨⟨xb, rfl, hxb, hir⟩, hb2⟩; have HIR := Lib.hid hir; have hxw := Nat.le_trans l3.size hxb; clear hir hxb; have HLx := Lib.hid (LI_step HL.out hb2); clear HL; have HL := HLx; clear HLx; (try clear l0 l1 l2 l3); obtain ⟨l0, l1, l2, l3⟩ := HL.out; clear hb2) | (go_at_call 52; refine (HF2 _ l3 _ HIR.out).mono ?_; rintro e w3 ⟨rfl, hb3⟩; have HIx := Lib.hid (HIR.out.step hb3); clear HIR; have HIR := HIx; clear HIx; have HLx := Lib.hid (LI_step HL.out hb3); clear HL; have HL := HLx; clear HLx; (try clear l0 l1 l2 l3); obtain ⟨l0, l1, l2, l3⟩ := HL.out; clear hb3) | (at_builtin; have HON := Lib.hid ((HO.out.step l3).own.alloc (.cells #[.int .i64 (-1), .int .i64 0, .int .i64 0, .slice (some ⟨xb, 0, none⟩) m m] 82)); rw [HLL.out] at HON; refine wpList_append_lies _ rfl _ _ 28 rfl base 82 j0 _ 4 48 Tryd.underlying28 hj0 hz0 hz1 hz2 rfl (by decide) (.slice va l vc) l (nmC L) rfl HON.out ⟨w3.heap.size, 0, none⟩ 1 1 [.int .i64 (-1), .int .i64 0, .int .i64 0, .slice (some ⟨xb, 0, none⟩) m m] rfl rfl (World.news_of_block (heap_alloc_new w3 (.cells #[.int .i64 (-1), .int .i64 0, .int .i64 0, .slice (some ⟨xb, 0, none⟩) m m] 82))) node_one (by decide) hb63 hb47 (by have := l3.size; simp; omega) _ rfl ?_; intro g p W5 hown hgrow hat hlt5))
            have HPS := Lib.hid (HO.out.push (x := ⟨-1, 0, 0, some ⟨xb, 0, none⟩, m, m, singleT i (-1)⟩) hbase l3 (.inr ⟨xb, rfl, rfl, rfl, hxw, HIR.out⟩) (by rw [HLL.out]; exact hown) hgrow hat); rw [HLL.out] at HPS; clear hown hgrow hat HON; go_wp2; exact HR1.out i (-1) _ _ _ HPK.out rfl HPS.out.1 HPS.out.2.1 HPS.out.2.2
        · have HPN := Lib.hid (HU.out.2.2 (HJ.out.1 (by omega)) (HJ.out.2.1 (by omega)))
          go_wp2
          go_roundw
          case rel => exact ⟨i + 1, by omega, by go_num, Lib.hid ⟨HPN.out, HL.out⟩⟩
          case measure => simp [intOf]; omega
    · obtain rfl : m = i := by omega
      have hlt' : ¬ (m : Int) < (m : Int) := by omega
      have hpn := HQ.out.1
      clear HR1
      by_cases h4 : 4000 < l
      · have h4' : (4000 : Int) < (l : Int) := by omega
        have HE := Lib.hid (fun (W' : World) (hb : Below W.heap.size W W') => HR2.out W' hpn h4 hb)
        clear hpn h4
        go_wp2
        exact HE.out _ l3
      · have h4' : ¬ (4000 : Int) < (l : Int) := by omega
        obtain ⟨cw, hw, hcn, hcl⟩ := HHV.out.wide hSh hpn
        have hlast : l + 1 + (hlv n m bs k (setBox box cw ⟨(box cw).lo, ((box cw).lo + (box cw).hi) / 2⟩) (l + 1)).length ≤ 44050 := by
          by_cases h5 : l + 1 ≤ 4000
          · have := hlv_len (n := n) (m := m) (bs := bs) k (setBox box cw ⟨(box cw).lo, ((box cw).lo + (box cw).hi) / 2⟩) (l + 1) h5
            omega
          · have := hlv_one (n := n) (m := m) (bs := bs) k (setBox box cw ⟨(box cw).lo, ((box cw).lo + (box cw).hi) / 2⟩) (l + 1) (by omega)
            omega
        obtain ⟨y1, y2, y3, y4⟩ := HBX.out cw hcn
        have HH1 := Lib.hid (HHV.out.left hcn hcl)
        have HH2 := Lib.hid (HHV.out.right hcn hcl)
        have HR4 := Lib.hid (fun (W' : World) (v' : Value) (L1 L2 : List NM) e1 e2 h1 h2 => HR3.out W' v' cw L1 L2 hpn h4 hw e1 e2 h1 h2)
        have HWW := Lib.hid hw
        have HLA := Lib.hid hlast
        have HLE := Lib.hid HHV.out.le
        clear HR2 HR3 HRF hpn h4 hw hlast HQ
        go_wp2
        go_loopw [10] (fun t wr => ∃ q : Nat, q ≤ n ∧ t = .int .i64 (q : Int) ∧ Hid (wideAt box q = none ∧ LI a n c ba m bc W wr)) (fun t _ => n - (intOf t).toNat)
        case atStart => exact ⟨0, Nat.zero_le _, rfl, Lib.hid ⟨rfl, HL.out⟩⟩
        case round =>
          clear HL l0 l1 l2 l3
          obtain ⟨q, hq, rfl, HQ⟩ := hrel
          have hqn : q < n := by
            rcases Nat.lt_or_ge q n with h | h
            · exact h
            · obtain rfl : q = n := by omega
              have h1 := HQ.out.1
              rw [HWW.out] at h1
              cases h1
          have hqn' : (q : Int) < (n : Int) := by omega
          have HL := Lib.hid HQ.out.2
          obtain ⟨l0, l1, l2, l3⟩ := HL.out
          obtain ⟨b, off, hxe, hb, z0, z1⟩ := (HX.out.below l3).get hqn
          have hbz : b < wr.heap.size := by have := l3.size; omega
          subst hxe
          by_cases hl2 : (box q).lo < (box q).hi
          · have hcq : q = cw := by
              have h1 := wideAt_up n hqn (wideAt_here HQ.out.1 hl2)
              rw [HWW.out] at h1
              injection h1 with h1
              exact h1.symm
            subst hcq
            have hne : ((box q).lo == (box q).hi) = false := by rw [beq_eq_false_iff_ne]; omega
            have hqe : ((q : Int) == (n : Int)) = false := by rw [beq_eq_false_iff_ne]; omega
            go_upto_region 13 with (fail)
            (refine wp_region_calm (wr.heap.size) (by kernel_rfl) (by kernel_rfl) ?_; (repeat (first | go_big_quiet_step (fail) | quiet_step (fail))); refine wpQuiet_nil ?_; intro _ hw'; obtain ⟨xq, hw''⟩ := hw'; subst hw'')
            go_upto_region 17 with (fail)
            have HL2 := Lib.hid (LI_step HL.out (Calm.below xq))
            have hbq := Calm.below xq
            have z0' := ((bcell hbq).1 b _ hbz).trans z0
            have z1' := ((bcell hbq).1 b _ hbz).trans z1
            have hbz' : b < (Calm.val xq).heap.size := Nat.lt_of_lt_of_le hbz hbq.size
            clear HL l0 l1 l2 l3 z0 z1 hbz hbq
            generalize Calm.val xq = V7 at *
            (refine wp_region_calm (V7.heap.size) (by kernel_rfl) (by kernel_rfl) ?_; (repeat (first | go_big_quiet_step (fail) | quiet_step (fail))); refine wpQuiet_nil ?_; intro _ hw'; obtain ⟨xq, hw''⟩ := hw'; subst hw'')
            have HL := Lib.hid (LI_step HL2.out (Calm.below xq))
            clear HL2 z0' z1' hbz'
            generalize Calm.val xq = Wb at *
            obtain ⟨l0, l1, l2, l3⟩ := HL.out
            go_upto_region 19 with (fail)
            have hmid := mid_lt hl2
            obtain ⟨y1, y2, y3, y4⟩ := HBX.out q hqn
            have HB1 := Lib.hid (show BoxOk n (setBox box q ⟨(box q).lo, ((box q).lo + (box q).hi) / 2⟩) from fun j hj => by
              unfold setBox
              by_cases e : j = q
              · rw [if_pos e]; dsimp only; omega
              · rw [if_neg e]; exact HBX.out j hj)
            have HB2 := Lib.hid (show BoxOk n (setBox box q ⟨((box q).lo + (box q).hi) / 2 + 1, (box q).hi⟩) from fun j hj => by
              unfold setBox
              by_cases e : j = q
              · rw [if_pos e]; dsimp only; omega
              · rw [if_neg e]; exact HBX.out j hj)
            generalize hmd : ((box q).lo + (box q).hi) / 2 = MD at *
            have hMD : 0 ≤ MD ∧ MD ≤ 1000 := by omega
            clear hmd hmid
            have HOb := Lib.hid (HO.out.step l3)
            have hbw : base ≤ Wb.heap.size := by have := l3.size; omega
            go_upto_region 20 with (at_builtin; have HON := Lib.hid (HOb.out.own.alloc (.cells #[.int .i64 (q : Int), .int .i64 MD, .int .i64 0, .slice none 0 0] 82)); rw [HLL.out] at HON; refine wpList_append_lies _ rfl _ _ 28 rfl base 82 j0 _ 4 48 Tryd.underlying28 hj0 hz0 hz1 hz2 rfl (by decide) (.slice va l vc) l (nmC L) rfl HON.out ⟨Wb.heap.size, 0, none⟩ 1 1 [.int .i64 (q : Int), .int .i64 MD, .int .i64 0, .slice none 0 0] rfl rfl (World.news_of_block (heap_alloc_new Wb (.cells #[.int .i64 (q : Int), .int .i64 MD, .int .i64 0, .slice none 0 0] 82))) node_one (by decide) hb63 hb47 (by simp; omega) _ rfl ?_; intro g p W5 hown hgrow hat hlt5)
            have HPS := HOb.out.push (x := ⟨(q : Int), MD, 0, none, 0, 0, fun _ => 0⟩) hbw (Below.refl _ _) (.inl ⟨rfl, rfl, rfl⟩) (by rw [HLL.out]; exact hown) hgrow hat
            rw [HLL.out] at HPS
            have HO5 := Lib.hid HPS.1
            have HK5 := Lib.hid (show Kp Wb (.slice va l vc) W5 (.slice (some ⟨g, 0, none⟩) (l + 1) p) from ⟨HPS.2.1, HPS.2.2⟩)
            clear hown hgrow hat HON HPS hlt5
            have hvW : (Value.slice va l vc).ownBlock ≠ some W.heap.size := fun e => by have := (HO.out.ownlt _ e).2; omega
            have hvb : (Value.slice va l vc).ownBlock ≠ some b := by have := HXV.out b off rfl; rwa [HLL.out] at this
            have hbW : b < W.heap.size := hb
            have hbWb : b < Wb.heap.size := by have := l3.size; omega
            have HEB := Lib.hid ((HK5.out.kept hbWb hvb).trans (l3.block b hbW))
            have i0' := (HK5.out.cell l2 hvW).trans l0
            have i1' := (HK5.out.cell l2 hvW).trans l1
            obtain ⟨b9, off9, e9, hb9, x9, x8⟩ := HX.out.get hqn
            injection e9 with e9
            injection e9 with e91 e92
            subst e91 e92
            have i2' := (World.cell?_of_block HEB.out).trans x9
            have hz5 := HK5.out.grown.size
            refine wp_region_any (by kernel_rfl) ?_
            change wpAny _ _ _ _ _ _ _ (World.drew W5)
            have HO5d := Lib.hid (HO5.out.step (show Below W5.heap.size W5 W5.drew from (Below.refl _ _).drew))
            have HK5d := Lib.hid (HK5.out.trans (Kp.of_below (show Below W5.heap.size W5 W5.drew from (Below.refl _ _).drew)))
            have HEBd := Lib.hid (show W5.drew.heap[b]? = W.heap[b]? from HEB.out)
            have i0' : W5.drew.cell? ⟨W.heap.size, 0, none⟩ = _ := i0'
            have i1' : W5.drew.cell? ⟨W.heap.size, 1, none⟩ = _ := i1'
            have i2' : W5.drew.cell? ⟨b, off + q * 2, none⟩ = _ := i2'
            have hz5 : Wb.heap.size ≤ W5.drew.heap.size := hz5
            clear HO5 HK5 HEB l0 l1
            generalize World.drew W5 = Wd at *
            refine any_of_tail 13 13 (fun w' => w'.cell? ⟨W.heap.size, 0, none⟩ = some (.slice a n c) ∧ w'.cell? ⟨W.heap.size, 1, none⟩ = some (.slice ba m bc) ∧ w'.cell? ⟨b, off + q * 2, none⟩ = some (.int .i64 (box q).lo)) (by kernel_rfl) ⟨i0', i1', i2'⟩ (fun hS => ?_)
            refine headH_take (i := 0) (v := ?_) rfl (by kernel_rfl) (fun _ _ _ h => h) (Or.inl ⟨by rfl, ?_⟩) (by assumption) ?_; rotate_left; (· intro w' hSw; (try dsimp only at hSw); (try obtain ⟨hSw1, hSw2, hSw3⟩ := hSw); go_simp; (try with_reducible rfl)); (try simp only [List.getElem_toArray, List.getElem_cons_zero, List.getElem_cons_succ]); (try dsimp only [Act.put]); (try simp only [List.setIfInBounds_toArray, List.set_cons_zero, List.set_cons_succ])
            refine headH_take (i := 1) (v := ?_) rfl (by kernel_rfl) (fun _ _ _ h => h) (Or.inl ⟨by rfl, ?_⟩) (by assumption) ?_; rotate_left; (· intro w' hSw; (try dsimp only at hSw); (try obtain ⟨hSw1, hSw2, hSw3⟩ := hSw); go_simp; (try with_reducible rfl)); (try simp only [List.getElem_toArray, List.getElem_cons_zero, List.getElem_cons_succ]); (try dsimp only [Act.put]); (try simp only [List.setIfInBounds_toArray, List.set_cons_zero, List.set_cons_succ])
            refine headH_take (i := 2) (v := ?_) rfl (by kernel_rfl) (fun _ _ _ h => h) (Or.inl ⟨by rfl, ?_⟩) (by assumption) ?_; rotate_left; (· intro w' hSw; (try dsimp only at hSw); (try obtain ⟨hSw1, hSw2, hSw3⟩ := hSw); go_simp; (try with_reducible rfl)); (try simp only [List.getElem_toArray, List.getElem_cons_zero, List.getElem_cons_succ]); (try dsimp only [Act.put]); (try simp only [List.setIfInBounds_toArray, List.set_cons_zero, List.set_cons_succ])
            refine headH_take (i := 3) (v := ?_) rfl (by kernel_rfl) (fun _ _ _ h => h) (Or.inl ⟨by rfl, ?_⟩) (by assumption) ?_; rotate_left; (· intro w' hSw; (try dsimp only at hSw); (try obtain ⟨hSw1, hSw2, hSw3⟩ := hSw); go_simp; (try with_reducible rfl)); (try simp only [List.getElem_toArray, List.getElem_cons_zero, List.getElem_cons_succ]); (try dsimp only [Act.put]); (try simp only [List.setIfInBounds_toArray, List.set_cons_zero, List.set_cons_succ])
            refine headH_take (i := 4) (v := ?_) rfl (by kernel_rfl) (fun _ _ _ h => h) (Or.inl ⟨by rfl, ?_⟩) (by assumption) ?_; rotate_left; (· intro w' hSw; (try dsimp only at hSw); (try obtain ⟨hSw1, hSw2, hSw3⟩ := hSw); go_simp; (try with_reducible rfl)); (try simp only [List.getElem_toArray, List.getElem_cons_zero, List.getElem_cons_succ]); (try dsimp only [Act.put]); (try simp only [List.setIfInBounds_toArray, List.set_cons_zero, List.set_cons_succ])
            refine headH_take (i := 5) (v := ?_) rfl (by kernel_rfl) (fun _ _ _ h => h) (Or.inl ⟨by rfl, ?_⟩) (by assumption) ?_; rotate_left; (· intro w' hSw; (try dsimp only at hSw); (try obtain ⟨hSw1, hSw2, hSw3⟩ := hSw); go_simp; (try with_reducible rfl)); (try simp only [List.getElem_toArray, List.getElem_cons_zero, List.getElem_cons_succ]); (try dsimp only [Act.put]); (try simp only [List.setIfInBounds_toArray, List.set_cons_zero, List.set_cons_succ])
            refine headH_take (i := 6) (v := ?_) rfl (by kernel_rfl) (fun _ _ _ h => h) (Or.inl ⟨by rfl, ?_⟩) (by assumption) ?_; rotate_left; (· intro w' hSw; (try dsimp only at hSw); (try obtain ⟨hSw1, hSw2, hSw3⟩ := hSw); go_simp; (try with_reducible rfl)); (try simp only [List.getElem_toArray, List.getElem_cons_zero, List.getElem_cons_succ]); (try dsimp only [Act.put]); (try simp only [List.setIfInBounds_toArray, List.set_cons_zero, List.set_cons_succ])
            refine headH_take (i := 7) (v := ?_) rfl (by kernel_rfl) (fun _ _ _ h => h) (Or.inl ⟨by rfl, ?_⟩) (by assumption) ?_; rotate_left; (· intro w' hSw; (try dsimp only at hSw); (try obtain ⟨hSw1, hSw2, hSw3⟩ := hSw); go_simp; (try with_reducible rfl)); (try simp only [List.getElem_toArray, List.getElem_cons_zero, List.getElem_cons_succ]); (try dsimp only [Act.put]); (try simp only [List.setIfInBounds_toArray, List.set_cons_zero, List.set_cons_succ])
            refine headH_take (i := 8) (v := ?_) rfl (by kernel_rfl) (fun _ _ _ h => h) (Or.inl ⟨by rfl, ?_⟩) (by assumption) ?_; rotate_left; (· intro w' hSw; (try dsimp only at hSw); (try obtain ⟨hSw1, hSw2, hSw3⟩ := hSw); go_simp; (try with_reducible rfl)); (try simp only [List.getElem_toArray, List.getElem_cons_zero, List.getElem_cons_succ]); (try dsimp only [Act.put]); (try simp only [List.setIfInBounds_toArray, List.set_cons_zero, List.set_cons_succ])
            refine headH_take (i := 9) (v := ?_) rfl (by kernel_rfl) (fun _ _ _ h => h) (Or.inl ⟨by rfl, ?_⟩) (by assumption) ?_; rotate_left; (· intro w' hSw; (try dsimp only at hSw); (try obtain ⟨hSw1, hSw2, hSw3⟩ := hSw); go_simp; (try with_reducible rfl)); (try simp only [List.getElem_toArray, List.getElem_cons_zero, List.getElem_cons_succ]); (try dsimp only [Act.put]); (try simp only [List.setIfInBounds_toArray, List.set_cons_zero, List.set_cons_succ])
            refine headH_take (i := 11) (v := ?_) rfl (by kernel_rfl) (fun _ _ _ h => h) (Or.inl ⟨by rfl, ?_⟩) (by assumption) ?_; rotate_left; (· intro w' hSw; (try dsimp only at hSw); (try obtain ⟨hSw1, hSw2, hSw3⟩ := hSw); go_simp; (try with_reducible rfl)); (try simp only [List.getElem_toArray, List.getElem_cons_zero, List.getElem_cons_succ]); (try dsimp only [Act.put]); (try simp only [List.setIfInBounds_toArray, List.set_cons_zero, List.set_cons_succ])
            refine headH_all (rs := [10]) (by kernel_rfl) (by simp) (by kernel_rfl) ?_; intro i0 hi0; simp only [List.mem_cons, List.not_mem_nil, or_false] at hi0
            subst hi0
            refine headH_op rfl (fun K hK => ?_)
            go_simp
            refine (r8part_any (some ⟨b, off, none⟩) n xc box q (box q).lo MD hqn hn40 Wd (spans_blk HX.out HEBd.out (by omega))).mono ?_
            rintro e W6 ⟨pa, pc, rfl, hNS, _, _, hb6⟩
            dsimp only
            have hz6 := hb6.size
            have i0' := ((bcell hb6).1 W.heap.size 0 (by omega)).trans i0'
            have i1' := ((bcell hb6).1 W.heap.size 1 (by omega)).trans i1'
            have i2' := ((bcell hb6).1 b (off + q * 2) (by omega)).trans i2'
            have HO6 := Lib.hid (HO5d.out.step hb6)
            have HK6 := Lib.hid (HK5d.out.trans (Kp.of_below hb6))
            have HEB6 := Lib.hid ((hb6.block b (by omega)).trans HEBd.out)
            obtain ⟨pb, hpa, hpb, hpc, hpd⟩ := hNS
            subst hpa
            have HNS := Lib.hid (show Spans W6.heap.size W6 (some ⟨pb, 0, none⟩) n (setBox box q ⟨(box q).lo, MD⟩) from ⟨by unfold maxLen; omega, .inr ⟨pb, 0, rfl, hpc, fun i hi => by rw [Nat.zero_add]; exact hpd i hi⟩⟩)
            have hpv : (Value.slice (some ⟨g, 0, none⟩) (l + 1) p).ownBlock ≠ some pb := fun e => by have := (HO5d.out.ownlt _ e).2; omega
            refine hK.out _ _ ⟨i0', i1', i2'⟩ (fun hS2 => ?_)
            clear hK K hS hb6 HO5d HK5d HEBd hpd
            (try simp only [List.getElem_toArray, List.getElem_cons_zero, List.getElem_cons_succ]); (try dsimp only [Act.put]); (try simp only [List.setIfInBounds_toArray, List.set_cons_zero, List.set_cons_succ])
            refine headH_all (rs := [12]) (by kernel_rfl) (by simp) (by kernel_rfl) ?_; intro i0 hi0; simp only [List.mem_cons, List.not_mem_nil, or_false] at hi0
            subst hi0
            refine headH_op rfl (fun K hK => ?_)
            go_simp
            have HKW := Lib.hid ((Kp.of_below l3).trans HK6.out)
            have e1 : (L ++ [(⟨(q : Int), MD, 0, none, 0, 0, fun _ => 0⟩ : NM)]).length = l + 1 := by rw [List.length_append, HLL.out]; rfl
            have HCL := HIH.out (some ⟨pb, 0, none⟩) pc _ (.slice (some ⟨g, 0, none⟩) (l + 1) p) _ W6 HH1.out HB1.out (by rw [e1]; omega) (HM.out.below (HKW.out.below hBW (fun b e => Nat.le_trans hB1 (HO.out.ownlt b e).1))) hB1 (by omega) HNS.out (fun b off e => by injection e with e; injection e with e1 _; subst e1; exact hpv) HO6.out
            unfold HalRes at HCL
            rw [e1] at HCL
            refine HCL.mono ?_
            clear HCL e1 HNS hpv hpb hpc HB1 HH1
            rintro e W7 ⟨v7, L1, rfl, hO7, hmap1, hgr7, hown7⟩
            dsimp only
            have HK7 := Lib.hid (show Kp W6 (.slice (some ⟨g, 0, none⟩) (l + 1) p) W7 v7 from ⟨hgr7, hown7⟩)
            rw [List.append_assoc, List.singleton_append] at hO7
            obtain ⟨a7, c7, rfl⟩ := own_len hO7.own
            obtain ⟨g7, rfl, _, hg7⟩ := own_at hO7.own (by rw [List.length_append, List.length_cons]; omega)
            have HM1 := Lib.hid hmap1
            clear hgr7 hown7 hmap1
            obtain ⟨N, hN⟩ : ∃ N, (L ++ (⟨(q : Int), MD, 0, none, 0, 0, fun _ => 0⟩ : NM) :: L1).length = N := ⟨_, rfl⟩
            have HNL := Lib.hid (show N = l + 1 + L1.length by rw [← hN, List.length_append, List.length_cons, HLL.out]; omega)
            have HNB := Lib.hid (show N ≤ 44050 from by
              have h1 := congrArg List.length HM1.out
              rw [List.length_map] at h1
              have h2 := HLA.out
              have h3 := HNL.out
              omega)
            have HO7 := Lib.hid hO7
            clear hO7
            rw [hN] at HO7 HK7 ⊢
            clear hN
            have hz7 := HK7.out.grown.size
            have hgW : (Value.slice (some ⟨g, 0, none⟩) (l + 1) p).ownBlock ≠ some W.heap.size := HK6.out.ne l2 hvW
            have hgb : (Value.slice (some ⟨g, 0, none⟩) (l + 1) p).ownBlock ≠ some b := HK6.out.ne hbWb hvb
            have i0' := (HK7.out.cell (by omega) hgW).trans i0'
            have i1' := (HK7.out.cell (by omega) hgW).trans i1'
            have i2' := (HK7.out.cell (by omega) hgb).trans i2'
            refine hK.out _ _ ⟨i0', i1', i2'⟩ (fun hS3 => ?_)
            clear hK K hS2 hS3
            (try simp only [List.getElem_toArray, List.getElem_cons_zero, List.getElem_cons_succ]); (try dsimp only [Act.put]); (try simp only [List.setIfInBounds_toArray, List.set_cons_zero, List.set_cons_succ])
            change tailL _ _ _ _ _ _ _ _
            refine ⟨by kernel_rfl, ?_⟩
            simp only [List.drop_succ_cons, List.drop_zero]
            have HK7w := Lib.hid (HKW.out.trans HK7.out)
            have HEB7 := Lib.hid ((HK7.out.kept (by omega) hgb).trans HEB6.out)
            obtain ⟨y0, y1⟩ := HO7.out.slot HLL.out
            dsimp only at y0
            have hml : (l : Int) < (N : Int) := by have := HNL.out; omega
            have hg7W := HK7.out.ne (b := W.heap.size) (by omega) hgW
            have hg7b := HK7.out.ne (b := b) (by omega) hgb
            go_upto_region 22 with (fail)
            obtain ⟨ho8, hk8⟩ := HO7.out.putR' HLL.out (N : Int)
            have i0' := (hk8.cell (b := W.heap.size) (by omega) hg7W).trans i0'
            have i1' := (hk8.cell (b := W.heap.size) (by omega) hg7W).trans i1'
            have HEB8 := Lib.hid ((hk8.kept (b := b) (by omega) hg7b).trans HEB7.out)
            have i2' := (World.cell?_of_block HEB8.out).trans x8
            have HO8 := Lib.hid ho8
            have HK8 := Lib.hid (HK7w.out.trans hk8)
            have hz8 := hk8.grown.size
            clear hk8 ho8 HO7 HK7w HEB7 HEB6 HK7 HK6 HKW y0 y1 x9 x8 hgW hgb HO6
            generalize World.setCell W7 _ _ = W8 at *
            refine wp_region_any (by kernel_rfl) ?_
            change wpAny _ _ _ _ _ _ _ (World.drew W8)
            have HO8d := Lib.hid (HO8.out.step (show Below W8.heap.size W8 W8.drew from (Below.refl _ _).drew))
            have HK8d := Lib.hid (HK8.out.trans (Kp.of_below (show Below W8.heap.size W8 W8.drew from (Below.refl _ _).drew)))
            have HEBd := Lib.hid (show W8.drew.heap[b]? = W.heap[b]? from HEB8.out)
            have i0' : W8.drew.cell? ⟨W.heap.size, 0, none⟩ = _ := i0'
            have i1' : W8.drew.cell? ⟨W.heap.size, 1, none⟩ = _ := i1'
            have i2' : W8.drew.cell? ⟨b, off + q * 2 + 1, none⟩ = _ := i2'
            have hz8 : W7.heap.size ≤ W8.drew.heap.size := hz8
            clear HO8 HK8 HEB8
            generalize World.drew W8 = We at *
            refine any_of_tail 14 14 (fun w' => w'.cell? ⟨W.heap.size, 0, none⟩ = some (.slice a n c) ∧ w'.cell? ⟨W.heap.size, 1, none⟩ = some (.slice ba m bc) ∧ w'.cell? ⟨b, off + q * 2 + 1, none⟩ = some (.int .i64 (box q).hi)) (by kernel_rfl) ⟨i0', i1', i2'⟩ (fun hS => ?_)
            refine headH_take (i := 0) (v := ?_) rfl (by kernel_rfl) (fun _ _ _ h => h) (Or.inl ⟨by rfl, ?_⟩) (by assumption) ?_; rotate_left; (· intro w' hSw; (try dsimp only at hSw); (try obtain ⟨hSw1, hSw2, hSw3⟩ := hSw); go_simp; (try with_reducible rfl)); (try simp only [List.getElem_toArray, List.getElem_cons_zero, List.getElem_cons_succ]); (try dsimp only [Act.put]); (try simp only [List.setIfInBounds_toArray, List.set_cons_zero, List.set_cons_succ])
            refine headH_take (i := 1) (v := ?_) rfl (by kernel_rfl) (fun _ _ _ h => h) (Or.inl ⟨by rfl, ?_⟩) (by assumption) ?_; rotate_left; (· intro w' hSw; (try dsimp only at hSw); (try obtain ⟨hSw1, hSw2, hSw3⟩ := hSw); go_simp; (try with_reducible rfl)); (try simp only [List.getElem_toArray, List.getElem_cons_zero, List.getElem_cons_succ]); (try dsimp only [Act.put]); (try simp only [List.setIfInBounds_toArray, List.set_cons_zero, List.set_cons_succ])
            refine headH_take (i := 2) (v := ?_) rfl (by kernel_rfl) (fun _ _ _ h => h) (Or.inl ⟨by rfl, ?_⟩) (by assumption) ?_; rotate_left; (· intro w' hSw; (try dsimp only at hSw); (try obtain ⟨hSw1, hSw2, hSw3⟩ := hSw); go_simp; (try with_reducible rfl)); (try simp only [List.getElem_toArray, List.getElem_cons_zero, List.getElem_cons_succ]); (try dsimp only [Act.put]); (try simp only [List.setIfInBounds_toArray, List.set_cons_zero, List.set_cons_succ])
            refine headH_take (i := 3) (v := ?_) rfl (by kernel_rfl) (fun _ _ _ h => h) (Or.inl ⟨by rfl, ?_⟩) (by assumption) ?_; rotate_left; (· intro w' hSw; (try dsimp only at hSw); (try obtain ⟨hSw1, hSw2, hSw3⟩ := hSw); go_simp; (try with_reducible rfl)); (try simp only [List.getElem_toArray, List.getElem_cons_zero, List.getElem_cons_succ]); (try dsimp only [Act.put]); (try simp only [List.setIfInBounds_toArray, List.set_cons_zero, List.set_cons_succ])
            refine headH_take (i := 4) (v := ?_) rfl (by kernel_rfl) (fun _ _ _ h => h) (Or.inl ⟨by rfl, ?_⟩) (by assumption) ?_; rotate_left; (· intro w' hSw; (try dsimp only at hSw); (try obtain ⟨hSw1, hSw2, hSw3⟩ := hSw); go_simp; (try with_reducible rfl)); (try simp only [List.getElem_toArray, List.getElem_cons_zero, List.getElem_cons_succ]); (try dsimp only [Act.put]); (try simp only [List.setIfInBounds_toArray, List.set_cons_zero, List.set_cons_succ])
            refine headH_take (i := 5) (v := ?_) rfl (by kernel_rfl) (fun _ _ _ h => h) (Or.inl ⟨by rfl, ?_⟩) (by assumption) ?_; rotate_left; (· intro w' hSw; (try dsimp only at hSw); (try obtain ⟨hSw1, hSw2, hSw3⟩ := hSw); go_simp; (try with_reducible rfl)); (try simp only [List.getElem_toArray, List.getElem_cons_zero, List.getElem_cons_succ]); (try dsimp only [Act.put]); (try simp only [List.setIfInBounds_toArray, List.set_cons_zero, List.set_cons_succ])
            refine headH_take (i := 6) (v := ?_) rfl (by kernel_rfl) (fun _ _ _ h => h) (Or.inl ⟨by rfl, ?_⟩) (by assumption) ?_; rotate_left; (· intro w' hSw; (try dsimp only at hSw); (try obtain ⟨hSw1, hSw2, hSw3⟩ := hSw); go_simp; (try with_reducible rfl)); (try simp only [List.getElem_toArray, List.getElem_cons_zero, List.getElem_cons_succ]); (try dsimp only [Act.put]); (try simp only [List.setIfInBounds_toArray, List.set_cons_zero, List.set_cons_succ])
            refine headH_take (i := 7) (v := ?_) rfl (by kernel_rfl) (fun _ _ _ h => h) (Or.inl ⟨by rfl, ?_⟩) (by assumption) ?_; rotate_left; (· intro w' hSw; (try dsimp only at hSw); (try obtain ⟨hSw1, hSw2, hSw3⟩ := hSw); go_simp; (try with_reducible rfl)); (try simp only [List.getElem_toArray, List.getElem_cons_zero, List.getElem_cons_succ]); (try dsimp only [Act.put]); (try simp only [List.setIfInBounds_toArray, List.set_cons_zero, List.set_cons_succ])
            refine headH_take (i := 8) (v := ?_) rfl (by kernel_rfl) (fun _ _ _ h => h) (Or.inl ⟨by rfl, ?_⟩) (by assumption) ?_; rotate_left; (· intro w' hSw; (try dsimp only at hSw); (try obtain ⟨hSw1, hSw2, hSw3⟩ := hSw); go_simp; (try with_reducible rfl)); (try simp only [List.getElem_toArray, List.getElem_cons_zero, List.getElem_cons_succ]); (try dsimp only [Act.put]); (try simp only [List.setIfInBounds_toArray, List.set_cons_zero, List.set_cons_succ])
            refine headH_take (i := 9) (v := ?_) rfl (by kernel_rfl) (fun _ _ _ h => h) (Or.inl ⟨by rfl, ?_⟩) (by assumption) ?_; rotate_left; (· intro w' hSw; (try dsimp only at hSw); (try obtain ⟨hSw1, hSw2, hSw3⟩ := hSw); go_simp; (try with_reducible rfl)); (try simp only [List.getElem_toArray, List.getElem_cons_zero, List.getElem_cons_succ]); (try dsimp only [Act.put]); (try simp only [List.setIfInBounds_toArray, List.set_cons_zero, List.set_cons_succ])
            refine headH_take (i := 10) (v := ?_) rfl (by kernel_rfl) (fun _ _ _ h => h) (Or.inl ⟨by rfl, ?_⟩) (by assumption) ?_; rotate_left; (· intro w' hSw; (try dsimp only at hSw); (try obtain ⟨hSw1, hSw2, hSw3⟩ := hSw); go_simp; (try with_reducible rfl)); (try simp only [List.getElem_toArray, List.getElem_cons_zero, List.getElem_cons_succ]); (try dsimp only [Act.put]); (try simp only [List.setIfInBounds_toArray, List.set_cons_zero, List.set_cons_succ])
            refine headH_take (i := 12) (v := ?_) rfl (by kernel_rfl) (fun _ _ _ h => h) (Or.inl ⟨by rfl, ?_⟩) (by assumption) ?_; rotate_left; (· intro w' hSw; (try dsimp only at hSw); (try obtain ⟨hSw1, hSw2, hSw3⟩ := hSw); go_simp; (try with_reducible rfl)); (try simp only [List.getElem_toArray, List.getElem_cons_zero, List.getElem_cons_succ]); (try dsimp only [Act.put]); (try simp only [List.setIfInBounds_toArray, List.set_cons_zero, List.set_cons_succ])
            refine headH_all (rs := [11]) (by kernel_rfl) (by simp) (by kernel_rfl) ?_; intro i0 hi0; simp only [List.mem_cons, List.not_mem_nil, or_false] at hi0
            subst hi0
            refine headH_op rfl (fun K hK => ?_)
            go_simp
            try rw [show IntKind.i64.wrap (MD + 1) = MD + 1 from IntWalk.i64_in _ (by omega)]
            refine (r8part_any (some ⟨b, off, none⟩) n xc box q (MD + 1) (box q).hi hqn hn40 We (spans_blk HX.out HEBd.out (by omega))).mono ?_
            rintro e W9 ⟨pa2, pc2, rfl, hNS, _, _, hb9⟩
            dsimp only
            have hz9 := hb9.size
            have i0' := ((bcell hb9).1 W.heap.size 0 (by omega)).trans i0'
            have i1' := ((bcell hb9).1 W.heap.size 1 (by omega)).trans i1'
            have i2' := ((bcell hb9).1 b (off + q * 2 + 1) (by omega)).trans i2'
            have HO9 := Lib.hid (HO8d.out.step hb9)
            have HK9 := Lib.hid (HK8d.out.trans (Kp.of_below hb9))
            obtain ⟨pb2, hpa, hpb, hpc, hpd⟩ := hNS
            subst hpa
            have HNS := Lib.hid (show Spans W9.heap.size W9 (some ⟨pb2, 0, none⟩) n (setBox box q ⟨MD + 1, (box q).hi⟩) from ⟨by unfold maxLen; omega, .inr ⟨pb2, 0, rfl, hpc, fun i hi => by rw [Nat.zero_add]; exact hpd i hi⟩⟩)
            have hpv : (Value.slice (some ⟨g7, 0, none⟩) N c7).ownBlock ≠ some pb2 := fun e => by have := (HO8d.out.ownlt _ e).2; omega
            refine hK.out _ _ ⟨i0', i1', i2'⟩ (fun hS2 => ?_)
            clear hK K hS hb9 HO8d HK8d HEBd hpd
            (try simp only [List.getElem_toArray, List.getElem_cons_zero, List.getElem_cons_succ]); (try dsimp only [Act.put]); (try simp only [List.setIfInBounds_toArray, List.set_cons_zero, List.set_cons_succ])
            refine headH_all (rs := [13]) (by kernel_rfl) (by simp) (by kernel_rfl) ?_; intro i0 hi0; simp only [List.mem_cons, List.not_mem_nil, or_false] at hi0
            subst hi0
            refine headH_op rfl (fun K hK => ?_)
            go_simp
            have e1 : (L ++ (⟨(q : Int), MD, (N : Int), none, 0, 0, fun _ => 0⟩ : NM) :: L1).length = l + 1 + L1.length := by rw [List.length_append, List.length_cons, HLL.out]; omega
            have HCL := HIH.out (some ⟨pb2, 0, none⟩) pc2 _ (.slice (some ⟨g7, 0, none⟩) N c7) _ W9 HH2.out HB2.out (by rw [e1, ← HNL.out]; have := HNB.out; omega) (HM.out.below (HK9.out.below hBW (fun b e => Nat.le_trans hB1 (HO.out.ownlt b e).1))) hB1 (by omega) HNS.out (fun b off e => by injection e with e; injection e with e1 _; subst e1; exact hpv) HO9.out
            unfold HalRes at HCL
            rw [e1] at HCL
            refine HCL.mono ?_
            clear HCL HIH e1 HNS hpv hpb hpc HB2 HH2
            rintro e Wf ⟨vf, L2, rfl, hOf, hmap2, hgrf, hownf⟩
            dsimp only
            have HKf := Lib.hid (show Kp W9 (.slice (some ⟨g7, 0, none⟩) N c7) Wf vf from ⟨hgrf, hownf⟩)
            rw [List.append_assoc, List.cons_append, HNL.out] at hOf
            have HFIN := Lib.hid (HR4.out Wf vf L1 L2 HM1.out hmap2 hOf (HK9.out.trans HKf.out))
            clear hOf hmap2 hgrf hownf
            have hgW9 : (Value.slice (some ⟨g7, 0, none⟩) N c7).ownBlock ≠ some W.heap.size := hg7W
            have i0' := (HKf.out.cell (by omega) hg7W).trans i0'
            have i1' := (HKf.out.cell (by omega) hg7W).trans i1'
            have i2' := (HKf.out.cell (by omega) hg7b).trans i2'
            refine hK.out _ _ ⟨i0', i1', i2'⟩ (fun hS3 => ?_)
            clear hK K hS2 hS3
            (try simp only [List.getElem_toArray, List.getElem_cons_zero, List.getElem_cons_succ]); (try dsimp only [Act.put]); (try simp only [List.setIfInBounds_toArray, List.set_cons_zero, List.set_cons_succ])
            change tailL _ _ _ _ _ _ _ _
            refine ⟨by kernel_rfl, ?_⟩
            simp only [List.drop_succ_cons, List.drop_zero]
            go_wp2
            exact HFIN.out
          · have heq : ((box q).lo == (box q).hi) = true := by rw [beq_iff_eq]; have := HLE.out q hqn; omega
            have HN := Lib.hid (wideAt_not HQ.out.1 hl2)
            go_upto_region 13 with (fail)
            (refine wp_region_calm (wr.heap.size) (by kernel_rfl) (by kernel_rfl) ?_; (repeat (first | go_big_quiet_step (fail) | quiet_step (fail))); refine wpQuiet_nil ?_; intro _ hw'; obtain ⟨xq, hw''⟩ := hw'; subst hw'')
            go_wp2
            go_roundw
            case rel => exact ⟨q + 1, by omega, by go_num, Lib.hid ⟨HN.out, LI_step HL.out (Calm.below _)⟩⟩
            case measure => simp [intOf]; omega
end Go.Proofs.YtlfegmjdheddjaaDoor
namespace Go.Proofs.YtlfegmjdheddjaaDoor
open Go.RowKit
set_option linter.unusedVariables false
set_option linter.unusedSimpArgs false
theorem hal_all (B base n : Nat) (ss : Nat → SV) (m : Nat) (bs : Nat → BM) (a : Option Addr) (c : Nat) (ba : Option Addr) (bc : Nat) (hSh : Shape n ss m bs) : ∀ k, k ≤ 40001 → HalOk B base n ss m bs a c ba bc k
  | 0, _ => fun xa xc box v W L hH _ _ _ _ _ _ _ _ => by
    have h1 := size_pos hH.le
    have h2 := hH.fuel
    omega
  | k + 1, h => hal_node B base n ss m bs a c ba bc hSh k (by omega) (hal_all B base n ss m bs a c ba bc hSh k (by omega))
theorem sizeN_le {n : Nat} {ss : Nat → SV} (h : ∀ c, c < n → 0 ≤ (ss c).lo ∧ (ss c).hi ≤ 1000) : sizeN ss n ≤ 1000 * (n : Int) := by
  induction n with
  | zero => simp [sizeN, sumN]
  | succ k ih =>
    have h1 := ih (fun c hc => h c (by omega))
    have h2 := h k (by omega)
    unfold sizeN at *
    rw [sumN]
    push_cast
    omega
theorem Halves_any (a : Option Addr) (n c : Nat) (ba : Option Addr) (m bc : Nat) (ss : Nat → SV) (bs : Nat → BM) (W : World) (B : Nat) (hBw : B ≤ W.heap.size) (hS : Spans B W a n ss) (hM : Beams B W ba m bs) (hSh : Shape n ss m bs) (hA : allF n ss m bs = []) :
    Calls Tryd.prog 15 #[imageV a n c ba m bc, .slice a n c, .slice none 0 0] W fun e W' => (∃ xa L xc, e = .returned (.slice xa L.length xc) ∧ Nodes W'.heap.size W' xa L.length (nodesL L) ∧ L.map NM.nv = hlv n m bs ((sizeN ss n).toNat + 1) ss 0) ∧ Below W.heap.size W W' := by
  have hk : (sizeN ss n).toNat + 1 ≤ 40001 := by
    have h1 := sizeN_le (ss := ss) (n := n) (fun c hc => by have := hSh.span c hc; omega)
    have h2 := hSh.n40
    omega
  have hm := hSh.m20
  refine (hal_all B W.heap.size n ss m bs a c ba bc hSh _ hk a c ss (.slice none 0 0) [] W (halved_all hSh hA) (fun j hj => by have := hSh.span j hj; omega) (by simp) hM hBw (Nat.le_refl _) (hS.up hBw) (fun b off _ => by simp [Value.ownBlock]) (ON.nil _ _ _)).mono fun e W' h => ?_
  obtain ⟨v', L1, rfl, hO, hL, hgr, hown⟩ := h
  rw [List.nil_append] at hO
  obtain ⟨xa, xc, rfl⟩ := own_len hO.own
  exact ⟨⟨xa, L1, xc, rfl, hO.nodes (by unfold maxLen; omega), hL⟩, ⟨hgr.os, hgr.tape, hgr.output, hgr.size, fun b hb => hgr.block b hb (by simp [Value.ownBlock])⟩⟩
end Go.Proofs.YtlfegmjdheddjaaDoor
