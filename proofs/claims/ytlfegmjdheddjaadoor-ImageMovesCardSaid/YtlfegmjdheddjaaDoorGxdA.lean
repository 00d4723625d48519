/- Texts put together: RefAl0, RefEp0. -/
import Derived.Test.YtlfegmjdheddjaaDoorGjA
import Derived.Test.YtlfegmjdheddjaaDoorGkA
namespace Go.Proofs.YtlfegmjdheddjaaDoor
open Go.RowKit
set_option linter.unusedVariables false
set_option linter.unusedSimpArgs false
structure OutF (base n : Nat) (v : Value) (L : List (List Int)) (cs : List Value) (W : World) : Prop where
  own : W.ownsRow base 38 1 v L.length cs
  rows : ∀ k, k < L.length → ∃ ra rc, cs[k]? = some (.slice ra n rc) ∧ IntsX (fun b => base ≤ b ∧ b < W.heap.size ∧ v.ownBlock ≠ some b) W ra n (fOf (L.getD k []))
theorem OutF.ownlt {base n : Nat} {v : Value} {L : List (List Int)} {cs : List Value} {W : World} (h : OutF base n v L cs W) : ∀ b, v.ownBlock = some b → base ≤ b ∧ b < W.heap.size := fun b hb => by
  rcases h.own.2 with ⟨hv, _⟩ | ⟨g, cap, cur, hv, h1, h2, _⟩
  · rw [hv] at hb; cases hb
  · rw [hv] at hb
    have : g = b := by simpa [Value.ownBlock] using hb
    subst this
    exact ⟨h1, (Array.getElem?_eq_some_iff.1 h2).1⟩
theorem OutF.step {base n : Nat} {v : Value} {L : List (List Int)} {cs : List Value} {W W' : World} (h : OutF base n v L cs W) (hb : Below W.heap.size W W') : OutF base n v L cs W' :=
  ⟨own_below h.own hb, fun k hk => by
    obtain ⟨ra, rc, h1, h2⟩ := h.rows k hk
    exact ⟨ra, rc, h1, h2.keep (fun b h => ⟨h.1, Nat.lt_of_lt_of_le h.2.1 hb.size, h.2.2⟩) (fun b h => hb.block b h.2.1)⟩⟩
theorem OutF.nil (base n : Nat) (W : World) : OutF base n (.slice none 0 0) [] [] W := ⟨World.ownsRow_nil _ _ _ _, fun k hk => by simp at hk⟩
/-- a field more -/
theorem OutF.push {base n : Nat} {v : Value} {L : List (List Int)} {cs : List Value} {W W3 W5 : World} {g : List Int} {gA gc g1 p1 : Nat} {o : Obj} (h : OutF base n v L cs W) (hbase : base ≤ W.heap.size)
    (h3 : Below W.heap.size W W3) (hc : W3.ownsRow W.heap.size 3 1 (.slice (some ⟨gA, 0, none⟩) n gc) n (iC (fOf g) n)) (hA1 : W.heap.size ≤ gA) (hA2 : gA < W3.heap.size)
    (h5 : W5.ownsRow base 38 1 (.slice (some ⟨g1, 0, none⟩) (L.length + 1) p1) (L.length + 1) (cs ++ [.slice (some ⟨gA, 0, none⟩) n gc])) (hg : (W3.alloc o).grownBy W5 v.ownBlock) (hat : v.ownBlock = some g1 ∨ g1 = (W3.alloc o).heap.size) :
    OutF base n (.slice (some ⟨g1, 0, none⟩) (L.length + 1) p1) (L ++ [g]) (cs ++ [.slice (some ⟨gA, 0, none⟩) n gc]) W5 ∧ W.grownBy W5 v.ownBlock := by
  have hz3 := h3.size
  have hz4 : (W3.alloc o).heap.size = W3.heap.size + 1 := by simp
  have hz5 := hg.size
  have hol := h.ownlt
  have hcs : cs.length = L.length := by have := h.own.1; omega
  have hgA : gA ≠ g1 := by
    rcases hat with e | e
    · have := (hol g1 e).2; omega
    · omega
  have keep : ∀ b, b < W3.heap.size → v.ownBlock ≠ some b → W5.heap[b]? = W3.heap[b]? := fun b h1 h2 => (hg.block b (by omega) (Ne.symm h2)).trans (Below.heap_alloc W3 o b h1)
  refine ⟨⟨by rw [List.length_append, List.length_singleton]; exact h5, fun k hk => ?_⟩, hg.os.trans h3.os, hg.tape.trans h3.tape, hg.output.trans h3.output, by omega, fun b h1 h2 => (keep b (by omega) (fun e => h2 e.symm)).trans (h3.block b h1)⟩
  rw [List.length_append, List.length_singleton] at hk
  by_cases e : k < L.length
  · obtain ⟨ra, rc, h1, h2⟩ := h.rows k e
    refine ⟨ra, rc, by rw [List.getElem?_append_left (by omega)]; exact h1, ?_⟩
    rw [List.getD_eq_getElem?_getD, List.getElem?_append_left e, ← List.getD_eq_getElem?_getD]
    refine h2.keep (fun b h => ⟨h.1, by have := h.2.1; omega, fun e => ?_⟩) (fun b h => (keep b (by have := h.2.1; omega) h.2.2).trans (h3.block b h.2.1))
    have e' : g1 = b := by simpa [Value.ownBlock] using e
    rcases hat with q | q
    · exact h.2.2 (by rw [q, e'])
    · have := h.2.1; omega
  · have ek : k = L.length := by omega
    refine ⟨some ⟨gA, 0, none⟩, gc, by rw [List.getElem?_append_right (by omega), show k - cs.length = 0 by omega]; rfl, ?_⟩
    rw [List.getD_eq_getElem?_getD, List.getElem?_append_right (by omega), show k - L.length = 0 by omega]
    refine .inr ⟨gA, 0, rfl, ⟨by omega, by omega, fun e => hgA (by simpa [Value.ownBlock] using e.symm)⟩, fun j hj => ?_⟩
    have hne : v.ownBlock ≠ some gA := fun e => by have := (hol gA e).2; omega
    rw [Nat.zero_add]
    refine (World.cell?_of_block (keep gA hA2 hne)).trans ((hc.cellAt j (by omega)).trans ?_)
    rw [iC_get hj]
    rfl
theorem OutF.flds {base n : Nat} {v : Value} {L : List (List Int)} {cs : List Value} {W : World} (h : OutF base n v L cs W) : ∃ a c, v = .slice a L.length c ∧ Flds W.heap.size W a n L := by
  obtain ⟨a, c, rfl⟩ := own_len h.own
  refine ⟨a, c, rfl, ?_⟩
  by_cases hl : L = []
  · exact .inl hl
  · have hp : 0 < L.length := List.length_pos_iff.2 hl
    obtain ⟨g, rfl, h1, h2⟩ := own_at h.own hp
    refine .inr ⟨g, 0, rfl, h2, fun i hi => ?_⟩
    obtain ⟨ra, rc, k1, k2⟩ := h.rows i hi
    refine ⟨ra, rc, by rw [Nat.zero_add, h.own.cellAt i (by omega)]; exact k1, ?_⟩
    rcases k2 with k2 | ⟨b, off, e1, e2, e3⟩
    · exact .inl k2
    · exact .inr ⟨b, off, e1, e2.2.1, e3⟩
/-- what follows from the blocks that are kept -/
theorem grown_trans {V W W' : World} {v v' : Option Nat} (h1 : V.grownBy W v) (h2 : W.grownBy W' v') (hv : v' = v ∨ ∃ b, v' = some b ∧ V.heap.size ≤ b) : V.grownBy W' v :=
  ⟨h2.os.trans h1.os, h2.tape.trans h1.tape, h2.output.trans h1.output, Nat.le_trans h1.size h2.size, fun b hb hn => by
    refine (h2.block b (Nat.lt_of_lt_of_le hb h1.size) (fun e => ?_)).trans (h1.block b hb hn)
    rcases hv with q | ⟨b', q, hb'⟩
    · exact hn (e.trans q)
    · rw [q] at e; injection e with e; omega⟩
theorem grown_alloc {W V : World} {v : Option Nat} {o : Obj} (h : (W.alloc o).grownBy V v) : W.grownBy V v :=
  ⟨h.os, h.tape, h.output, Nat.le_trans (by simp) h.size, fun b hb hn => (h.block b (by simp; omega) hn).trans (Below.heap_alloc W o b hb)⟩
theorem dens_take {s : SV} {k : Nat} (hk : k < densN s) : (dens s).take (k + 1) = (dens s).take k ++ [s.lo + (k : Int)] := by
  have hl : k < (dens s).length := by simpa [dens, densN] using hk
  rw [List.take_add_one, List.getElem?_eq_getElem hl]
  simp [dens]
theorem iC_snoc (pre : List Int) (d : Int) : iC (fOf pre) pre.length ++ [.int .i64 d] = iC (fOf (pre ++ [d])) (pre.length + 1) := by
  apply List.ext_getElem?
  intro j
  by_cases h : j < pre.length
  · rw [List.getElem?_append_left (by rw [iC_len]; exact h), iC_get h, iC_get (by omega)]
    congr 2
    unfold fOf
    rw [List.getD_eq_getElem?_getD, List.getD_eq_getElem?_getD, List.getElem?_append_left h]
  · rw [List.getElem?_append_right (by rw [iC_len]; omega), iC_len]
    by_cases h2 : j = pre.length
    · subst h2
      rw [Nat.sub_self, iC_get (by omega)]
      unfold fOf
      rw [List.getD_eq_getElem?_getD, List.getElem?_append_right (Nat.le_refl _), Nat.sub_self]
      rfl
    · rw [List.getElem?_eq_none_iff.2 (by simp; omega), List.getElem?_eq_none_iff.2 (by rw [iC_len]; omega)]
end Go.Proofs.YtlfegmjdheddjaaDoor
namespace Go.Proofs.YtlfegmjdheddjaaDoor
open Go.RowKit
set_option linter.unusedVariables false
set_option linter.unusedSimpArgs false
/-- a list of fields that lies in blocks of R -/
def FR (R : Nat → Prop) (W : World) (a : Option Addr) (n : Nat) (l : List (List Int)) : Prop := RowsR R W a l.length n (fun k => fOf (l.getD k []))
section
variable {R R' : Nat → Prop} {W W' W3 W5 : World} {a fa : Option Addr} {n base t c : Nat} {l x : List (List Int)} {v : Value} {M : Nat → List (List Int)}
theorem FR.keep (h : FR R W a n l) (hk : ∀ b, b < W.heap.size → R b → W'.heap[b]? = W.heap[b]?) (hz : W.heap.size ≤ W'.heap.size) (hR : ∀ b, b < W.heap.size → R b → R' b) : FR R' W' a n l := by
  rcases h with h | ⟨b, off, ha, hB, hz2, hc⟩
  · exact .inl h
  · refine .inr ⟨b, off, ha, hR b hz2 hB, by omega, fun i hi => ?_⟩
    obtain ⟨ra, rc, h1, h2⟩ := hc i hi
    refine ⟨ra, rc, (World.cell?_of_block (hk b hz2 hB)).trans h1, ?_⟩
    rcases h2 with h | ⟨b2, off2, ha2, hB2, hz3, hc2⟩
    · exact .inl h
    · exact .inr ⟨b2, off2, ha2, hR b2 hz3 hB2, by omega, fun j hj => (World.cell?_of_block (hk b2 hz3 hB2)).trans (hc2 j hj)⟩
theorem FR.flds (h : FR R W a n l) : Flds W.heap.size W a n l := by
  rcases h with h | ⟨b, off, ha, hB, hz2, hc⟩
  · exact .inl (List.eq_nil_of_length_eq_zero h)
  · refine .inr ⟨b, off, ha, hz2, fun i hi => ?_⟩
    obtain ⟨ra, rc, k1, k2⟩ := hc i hi
    exact ⟨ra, rc, k1, k2.ints⟩
theorem OutF.fr {cs : List Value} (h : OutF base n v l cs W) : ∃ a c, v = .slice a l.length c ∧ FR (fun b => base ≤ b) W a n l := by
  obtain ⟨a, c, rfl⟩ := own_len h.own
  refine ⟨a, c, rfl, ?_⟩
  by_cases hl : l = []
  · exact .inl (by rw [hl]; rfl)
  · have hp : 0 < l.length := List.length_pos_iff.2 hl
    obtain ⟨g, rfl, h1, h2⟩ := own_at h.own hp
    refine .inr ⟨g, 0, rfl, h1, h2, fun i hi => ?_⟩
    obtain ⟨ra, rc, k1, k2⟩ := h.rows i hi
    refine ⟨ra, rc, by rw [Nat.zero_add, h.own.cellAt i (by omega)]; exact k1, ?_⟩
    rcases k2 with k2 | ⟨b, off, e1, e2, e3⟩
    · exact .inl k2
    · exact .inr ⟨b, off, e1, e2.1, e2.2.1, e3⟩
/-- lists of fields in an owned list -/
def HO (base n : Nat) (v : Value) (t : Nat) (M : Nat → List (List Int)) (W : World) : Prop :=
  ∃ cs, W.ownsRow base 33 1 v t cs ∧ ∀ k, k < t → ∃ fa fc, cs[k]? = some (.slice fa (M k).length fc) ∧ FR (fun b => v.ownBlock ≠ some b) W fa n (M k)
theorem HO.step (h : HO base n v t M W) (hb : Below W.heap.size W W') : HO base n v t M W' := by
  obtain ⟨cs, h1, h2⟩ := h
  refine ⟨cs, own_below h1 hb, fun k hk => ?_⟩
  obtain ⟨fa, fc, h3, h4⟩ := h2 k hk
  exact ⟨fa, fc, h3, h4.keep (fun b h _ => hb.block b h) hb.size (fun b _ h => h)⟩
theorem HO.nil (base n : Nat) (M : Nat → List (List Int)) (W : World) : HO base n (.slice none 0 0) 0 M W := ⟨[], World.ownsRow_nil _ _ _ _, fun k hk => by omega⟩
theorem HO.ownlt (h : HO base n v t M W) : ∀ b, v.ownBlock = some b → base ≤ b ∧ b < W.heap.size := fun b hb => by obtain ⟨cs, h1, _⟩ := h; exact h1.lt b hb
theorem HO.congr {M' : Nat → List (List Int)} (h : HO base n v t M W) (e : ∀ k, k < t → M k = M' k) : HO base n v t M' W := by
  obtain ⟨cs, h1, h2⟩ := h
  exact ⟨cs, h1, fun k hk => by rw [← e k hk]; exact h2 k hk⟩
/-- a list more -/
theorem HO.push {cs : List Value} {fc g1 p1 : Nat} {o : Obj} (h0 : W.ownsRow base 33 1 v t cs) (h : ∀ k, k < t → ∃ fa fc, cs[k]? = some (.slice fa (M k).length fc) ∧ FR (fun b => v.ownBlock ≠ some b) W fa n (M k)) (h3 : Below W.heap.size W W3) (hx : FR (fun b => v.ownBlock ≠ some b) W3 fa n (M t))
    (h5 : W5.ownsRow base 33 1 (.slice (some ⟨g1, 0, none⟩) (t + 1) p1) (t + 1) (cs ++ [.slice fa (M t).length fc])) (hg : (W3.alloc o).grownBy W5 v.ownBlock) (hat : v.ownBlock = some g1 ∨ g1 = (W3.alloc o).heap.size) :
    HO base n (.slice (some ⟨g1, 0, none⟩) (t + 1) p1) (t + 1) M W5 ∧ W.grownBy W5 v.ownBlock := by
  have hz3 := h3.size
  have hz4 : (W3.alloc o).heap.size = W3.heap.size + 1 := by simp
  have hz5 := hg.size
  have hcs : cs.length = t := by have := h0.1; omega
  have keep : ∀ b, b < W3.heap.size → v.ownBlock ≠ some b → W5.heap[b]? = W3.heap[b]? := fun b h1 h2 => (hg.block b (by omega) (Ne.symm h2)).trans (Below.heap_alloc W3 o b h1)
  have hnv : ∀ b, b < W3.heap.size → v.ownBlock ≠ some b → (Value.slice (some ⟨g1, 0, none⟩) (t + 1) p1).ownBlock ≠ some b := fun b h1 h2 e => by
    have e' : g1 = b := by simpa [Value.ownBlock] using e
    rcases hat with q | q
    · exact h2 (by rw [q, e'])
    · omega
  refine ⟨⟨_, h5, fun k hk => ?_⟩, hg.os.trans h3.os, hg.tape.trans h3.tape, hg.output.trans h3.output, by omega, fun b h1 h2 => (keep b (by omega) (fun e => h2 e.symm)).trans (h3.block b h1)⟩
  by_cases e : k < t
  · obtain ⟨fa', fc', h1, h2⟩ := h k e
    exact ⟨fa', fc', by rw [List.getElem?_append_left (by omega)]; exact h1, (h2.keep (fun b hb _ => h3.block b hb) hz3 (fun b _ h => h)).keep keep (by omega) hnv⟩
  · obtain rfl : k = t := by omega
    exact ⟨fa, fc, by rw [List.getElem?_append_right (by omega), show k - cs.length = 0 by omega]; rfl, hx.keep keep (by omega) hnv⟩
/-- a list put in another's place -/
theorem HO.put {g i fc : Nat} (h : HO base n (.slice (some ⟨g, 0, none⟩) t c) t M W) (hi : i < t) (hx : FR (fun b => b ≠ g) W fa n x) :
    HO base n (.slice (some ⟨g, 0, none⟩) t c) t (fun k => if k = i then x else M k) (W.setCell ⟨g, i, none⟩ (.slice fa x.length fc)) := by
  obtain ⟨cs, h1, h2⟩ := h
  have hcs : cs.length = t := by have := h1.1; omega
  have hz : W.heap.size ≤ (W.setCell ⟨g, i, none⟩ (.slice fa x.length fc)).heap.size := by simp
  have keep : ∀ b, b < W.heap.size → b ≠ g → (W.setCell ⟨g, i, none⟩ (.slice fa x.length fc)).heap[b]? = W.heap[b]? := fun b _ h => heap_setCell_other W ⟨g, i, none⟩ b _ h
  have hne : ∀ b, (Value.slice (some ⟨g, 0, none⟩) t c).ownBlock ≠ some b → b ≠ g := fun b h e => h (by subst e; rfl)
  have hne2 : ∀ b, b ≠ g → (Value.slice (some ⟨g, 0, none⟩) t c).ownBlock ≠ some b := fun b h e => h (by simpa [Value.ownBlock] using e.symm)
  refine ⟨_, own_set h1 (j := i) (by omega) _, fun k hk => ?_⟩
  dsimp only
  by_cases e : k = i
  · subst e
    rw [if_pos rfl]
    exact ⟨fa, fc, List.getElem?_set_self (by omega), hx.keep keep hz (fun b _ h => hne2 b h)⟩
  · rw [if_neg e]
    obtain ⟨fa', fc', h3, h4⟩ := h2 k hk
    exact ⟨fa', fc', by rw [List.getElem?_set_ne (Ne.symm e)]; exact h3, h4.keep (fun b hb h => keep b hb (hne b h)) hz (fun b _ h => h)⟩
/-- lists of fields as they lie in memory -/
def Lists3 (B : Nat) (w : World) (a : Option Addr) (t n : Nat) (M : Nat → List (List Int)) : Prop :=
  t = 0 ∨ ∃ b off, a = some ⟨b, off, none⟩ ∧ b < B ∧ ∀ k, k < t → ∃ fa fc, w.cell? ⟨b, off + k, none⟩ = some (.slice fa (M k).length fc) ∧ Flds B w fa n (M k)
theorem Lists3.below {B : Nat} (h : Lists3 B W a t n M) (hb : Below B W W') : Lists3 B W' a t n M := by
  rcases h with h | ⟨b, off, ha, hB, hc⟩
  · exact .inl h
  · refine .inr ⟨b, off, ha, hB, fun k hk => ?_⟩
    obtain ⟨fa, fc, h1, h2⟩ := hc k hk
    exact ⟨fa, fc, ((bcell hb).1 _ _ hB).trans h1, h2.below hb⟩
theorem Lists3.up {B B' : Nat} (h : Lists3 B W a t n M) (hb : B ≤ B') : Lists3 B' W a t n M := by
  rcases h with h | ⟨b, off, ha, hB, hc⟩
  · exact .inl h
  · refine .inr ⟨b, off, ha, by omega, fun k hk => ?_⟩
    obtain ⟨fa, fc, h1, h2⟩ := hc k hk
    exact ⟨fa, fc, h1, h2.up hb⟩
theorem Lists3.get {B : Nat} (h : Lists3 B W a t n M) {k : Nat} (hk : k < t) : ∃ b off fa fc, a = some ⟨b, off, none⟩ ∧ b < B ∧ W.cell? ⟨b, off + k, none⟩ = some (.slice fa (M k).length fc) ∧ Flds B W fa n (M k) := by
  rcases h with h | ⟨b, off, ha, hB, hc⟩
  · omega
  · obtain ⟨fa, fc, h1, h2⟩ := hc k hk
    exact ⟨b, off, fa, fc, ha, hB, h1, h2⟩
theorem HO.get {g : Nat} {m : Nat} (h : HO base n (.slice (some ⟨g, 0, none⟩) m c) t M W) {k : Nat} (hk : k < t) : ∃ fa fc, W.cell? ⟨g, k, none⟩ = some (.slice fa (M k).length fc) ∧ FR (fun b => b ≠ g) W fa n (M k) := by
  obtain ⟨cs, h1, h2⟩ := h
  obtain ⟨_, _, e⟩ := own_len h1
  injection e with _ e2 _
  subst e2
  obtain ⟨fa, fc, h3, h4⟩ := h2 k hk
  exact ⟨fa, fc, by rw [h1.cellAt k (by omega)]; exact h3, h4.keep (fun b _ _ => rfl) (Nat.le_refl _) (fun b _ h e => h (by subst e; rfl))⟩
theorem HO.frozen {g m : Nat} (h : HO base n (.slice (some ⟨g, 0, none⟩) m c) t M W) (k : Nat) : W.frozen? ⟨g, k, none⟩ = false := by
  obtain ⟨cs, h1, h2⟩ := h
  obtain ⟨_, _, e⟩ := own_len h1
  injection e with _ e2 _
  subst e2
  exact h1.frozenAt _
theorem HO.at_ {m : Nat} (h : HO base n (.slice a m c) t M W) (ht : 0 < t) : m = t ∧ ∃ g, a = some ⟨g, 0, none⟩ ∧ base ≤ g ∧ g < W.heap.size := by
  obtain ⟨cs, h1, h2⟩ := h
  obtain ⟨a', c', e⟩ := own_len h1
  injection e with e1 e2 e3
  exact ⟨e2, own_at h1 ht⟩
theorem HO.lists (h : HO base n (.slice a t c) t M W) : Lists3 W.heap.size W a t n M := by
  by_cases ht : t = 0
  · exact .inl ht
  obtain ⟨_, g, rfl, h1, h2⟩ := h.at_ (by omega)
  refine .inr ⟨g, 0, rfl, h2, fun k hk => ?_⟩
  obtain ⟨fa, fc, h3, h4⟩ := h.get hk
  exact ⟨fa, fc, by rw [Nat.zero_add]; exact h3, h4.flds⟩
end
end Go.Proofs.YtlfegmjdheddjaaDoor
