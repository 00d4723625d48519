/- Texts put together: ImSrch, ImClone. -/
import Derived.Test.YtkdopjkdokgipaaGreatDoorGeA
import Derived.Test.YtkdopjkdokgipaaGreatDoorImLook
namespace Go.Proofs.YtkdopjkdokgipaaGreatDoor
open Go.RowKit Go.Shelf
set_option linter.unusedVariables false
set_option linter.unusedSimpArgs false
/-- the blocks that a search reads: those of the image, and its own -/
def Rk (B lo hi b : Nat) : Prop := b < B ∨ (lo ≤ b ∧ b < hi)
theorem rows_get {W : World} {base : Nat} {t : TypeId} {a : Option Addr} {m c k : Nat} {ws : List Nat} (h : W.ownsRow base t 1 (.slice a m c) m (ws.map (rowW k))) (hl : ws.length = m) (hm : 0 < m) : ∃ g, a = some ⟨g, 0, none⟩ ∧ base ≤ g ∧ g < W.heap.size ∧ ∀ i, i < m → W.cell? ⟨g, i, none⟩ = some (.slice (some ⟨ws.getD i 0, 0, none⟩) k k) := by
  obtain ⟨g, rfl, h1, h2⟩ := own_at h hm
  refine ⟨g, rfl, h1, h2, fun i hi => ?_⟩
  rw [h.cellAt i (by omega), List.getElem?_map, List.getElem?_eq_getElem (by omega), List.getD_eq_getElem?_getD, List.getElem?_eq_getElem (by omega)]
  rfl
theorem LK.search {a : Option Addr} {n c : Nat} {ba : Option Addr} {m bc : Nat} {ss : Nat → SV} {bs : Nat → BM} {w : World} {wa : Option Addr} {wc : Nat} {ra : Option Addr} {rc : Nat} {ws rs : List Nat} {W : World} {B : Nat} (h : LK a n c ba m bc ss bs w wa wc ra rc m ws rs W) (hS : Spans B w a n ss) (hM : Beams B w ba m bs) (hBw : B ≤ w.heap.size) :
    SearchAt (Rk B w.heap.size W.heap.size) n ss m bs (w.heap.size + 1) W := by
  obtain ⟨l0, l1, l2, l3⟩ := h.li
  have hz := (Array.getElem?_eq_some_iff.1 h.sbox).1
  have hB : B ≤ W.heap.size := by omega
  have hlo : ∀ b, b < B → Rk B w.heap.size W.heap.size b := fun b hb => .inl hb
  refine ⟨.inr ⟨by omega, hz⟩, hz, a, c, ba, bc, wa, wc, ra, rc, cell_of_row _ _ _ _ _ _ h.sbox, cell_of_row _ _ _ _ _ _ h.sbox, cell_of_row _ _ _ _ _ _ h.sbox, cell_of_row _ _ _ _ _ _ h.sbox, (hS.below (l3.mono hBw)).inR hlo hB, (hM.below (l3.mono hBw)).inR hlo hB, ?_, ?_⟩
  · by_cases hm : m = 0
    · exact .inl hm
    · obtain ⟨g, rfl, h1, h2, h3⟩ := rows_get h.wown h.wl (by omega)
      exact .inr ⟨g, 0, rfl, .inr ⟨by omega, h2⟩, h2, fun i hi => ⟨_, n, by rw [Nat.zero_add]; exact h3 i hi, (h.wrow i hi).intsR (.inr ⟨by have := h.wlt i hi; omega, (h.wrow i hi).lt⟩)⟩⟩
  · by_cases hm : m = 0
    · exact .inl hm
    · obtain ⟨g, rfl, h1, h2, h3⟩ := rows_get h.rown h.rl (by omega)
      exact .inr ⟨g, 0, rfl, .inr ⟨by omega, h2⟩, h2, fun i hi => ⟨_, n + 1, by rw [Nat.zero_add]; exact h3 i hi, (h.rrow i hi).spansR (.inr ⟨by have := h.rlt i hi; omega, (h.rrow i hi).lt⟩)⟩⟩
/-- the iterator's box behind it -/
theorem Search.box {B lo : Nat} {n : Nat} {ss : Nat → SV} {m : Nat} {bs : Nat → BM} {sp : Nat} {W : World} {v : Value} {t : TypeId} (hlo : lo ≤ W.heap.size) (h : SearchAt (Rk B lo W.heap.size) n ss m bs sp W) : SearchAt (Rk B lo (W.heap.size + 1)) n ss m bs sp (W.alloc (.cells #[v] t)) := by
  have hw : ∀ b, Rk B lo W.heap.size b → Rk B lo (W.heap.size + 1) b := fun b h => h.elim .inl (fun h => .inr ⟨h.1, by omega⟩)
  have hi : ∀ {a n xs}, IntsR (Rk B lo W.heap.size) W a n xs → IntsR (Rk B lo (W.heap.size + 1)) W a n xs := fun h => h.weak hw
  have hs : ∀ {a n xs}, SpansR (Rk B lo W.heap.size) W a n xs → SpansR (Rk B lo (W.heap.size + 1)) W a n xs := fun h => by
    rcases h with h | ⟨b, off, ha, hB, hz, hc⟩
    · exact .inl h
    · exact .inr ⟨b, off, ha, hw b hB, hz, hc⟩
  have h2 : SearchAt (Rk B lo (W.heap.size + 1)) n ss m bs sp W := by
    obtain ⟨ca, cc, ba, bc, wa, wc, ra, rc, h0, h1, h2, h3, h4, h5, h6, h7⟩ := h.img
    refine ⟨hw _ h.own, h.lt, ca, cc, ba, bc, wa, wc, ra, rc, h0, h1, h2, h3, hs h4, ?_, ?_, ?_⟩
    · rcases h5 with h | ⟨b, off, ha, hB, hz, hc⟩
      · exact .inl h
      · exact .inr ⟨b, off, ha, hw b hB, hz, hc⟩
    · rcases h6 with h | ⟨b, off, ha, hB, hz, hc⟩
      · exact .inl h
      · refine .inr ⟨b, off, ha, hw b hB, hz, fun i hil => ?_⟩
        obtain ⟨ra, rc, k1, k2⟩ := hc i hil
        exact ⟨ra, rc, k1, hi k2⟩
    · rcases h7 with h | ⟨b, off, ha, hB, hz, hc⟩
      · exact .inl h
      · refine .inr ⟨b, off, ha, hw b hB, hz, fun i hil => ?_⟩
        obtain ⟨ra, rc, k1, k2⟩ := hc i hil
        exact ⟨ra, rc, k1, hs k2⟩
  have hk : ∀ b, b < W.heap.size → (W.alloc (.cells #[v] t)).heap[b]? = W.heap[b]? := fun b hb => Below.heap_alloc W _ b hb
  -- all that is read lies below the box
  obtain ⟨ca, cc, ba, bc, wa, wc, ra, rc, h0, h1, h2, h3, h4, h5, h6, h7⟩ := h.img
  have ce : ∀ b o, b < W.heap.size → (W.alloc (.cells #[v] t)).cell? ⟨b, o, none⟩ = W.cell? ⟨b, o, none⟩ := fun b o hb => World.cell?_of_block (hk b hb)
  have hi2 : ∀ {a n xs}, IntsR (Rk B lo W.heap.size) W a n xs → IntsR (Rk B lo (W.heap.size + 1)) (W.alloc (.cells #[v] t)) a n xs := fun h => by
    rcases h with h | ⟨b, off, ha, hB, hz, hc⟩
    · exact .inl h
    · exact .inr ⟨b, off, ha, hw b hB, by simp; omega, fun i hi => (ce b _ hz).trans (hc i hi)⟩
  have hs2 : ∀ {a n xs}, SpansR (Rk B lo W.heap.size) W a n xs → SpansR (Rk B lo (W.heap.size + 1)) (W.alloc (.cells #[v] t)) a n xs := fun h => by
    rcases h with h | ⟨b, off, ha, hB, hz, hc⟩
    · exact .inl h
    · exact .inr ⟨b, off, ha, hw b hB, by simp; omega, fun i hi => ⟨(ce b _ hz).trans (hc i hi).1, (ce b _ hz).trans (hc i hi).2⟩⟩
  have hl := h.lt
  refine ⟨hw _ h.own, by simp; omega, ca, cc, ba, bc, wa, wc, ra, rc, (ce _ _ hl).trans h0, (ce _ _ hl).trans h1, (ce _ _ hl).trans h2, (ce _ _ hl).trans h3, hs2 h4, ?_, ?_, ?_⟩
  · rcases h5 with h | ⟨b, off, ha, hB, hz, hc⟩
    · exact .inl h
    · refine .inr ⟨b, off, ha, hw b hB, by simp; omega, fun i hil => ?_⟩
      obtain ⟨k0, k1, k2, k3⟩ := hc i hil
      exact ⟨(ce b _ hz).trans k0, (ce b _ hz).trans k1, (ce b _ hz).trans k2, (ce b _ hz).trans k3⟩
  · rcases h6 with h | ⟨b, off, ha, hB, hz, hc⟩
    · exact .inl h
    · refine .inr ⟨b, off, ha, hw b hB, by simp; omega, fun i hil => ?_⟩
      obtain ⟨ra, rc, k1, k2⟩ := hc i hil
      exact ⟨ra, rc, (ce b _ hz).trans k1, hi2 k2⟩
  · rcases h7 with h | ⟨b, off, ha, hB, hz, hc⟩
    · exact .inl h
    · refine .inr ⟨b, off, ha, hw b hB, by simp; omega, fun i hil => ?_⟩
      obtain ⟨ra, rc, k1, k2⟩ := hc i hil
      exact ⟨ra, rc, (ce b _ hz).trans k1, hs2 k2⟩
end Go.Proofs.YtkdopjkdokgipaaGreatDoor
namespace Go.Proofs.YtkdopjkdokgipaaGreatDoor
open Go.RowKit Go.Shelf
set_option linter.unusedVariables false
set_option linter.unusedSimpArgs false
/-- numbers as cells -/
def iC (f : Nat → Int) (n : Nat) : List Value := (List.range n).map fun i => .int .i64 (f i)
theorem iC_len {f : Nat → Int} {n : Nat} : (iC f n).length = n := by simp [iC]
theorem iC_get {f : Nat → Int} {n i : Nat} (h : i < n) : (iC f n)[i]? = some (.int .i64 (f i)) := by simp [iC, h]
theorem iC_one {f : Nat → Int} {n : Nat} : ∀ u ∈ iC f n, u.oneCell' = true := by
  intro u hu
  simp only [iC, List.mem_map] at hu
  obtain ⟨i, _, rfl⟩ := hu
  rfl
def CloneRes (w : World) (t : TypeId) (k n : Nat) (xs : List Value) (e : Ending) (w' : World) : Prop := ∃ a c, e = .returned (.slice a n c) ∧ w'.ownsRow w.heap.size t k (.slice a n c) n xs ∧ Below w.heap.size w w'
theorem clone_done {W w' : World} {t : TypeId} {k n c : Nat} {a : Option Addr} {xs : List Value} (h : w'.ownsRow W.heap.size t k (.slice a n c) n xs) (hb : Below W.heap.size W w') : CloneRes W t k n xs (.returned (.slice a n c)) w' := ⟨a, c, rfl, h, hb⟩
set_option maxRecDepth 100000 in
set_option maxHeartbeats 1000000 in
theorem cloneI_any (a : Option Addr) (n c : Nat) (es : Nat → Int) (w : World) (hD : Ints w.heap.size w a n es) (hn : n ≤ 100000) (hna : a = none → n = 0) :
    Calls Tryz.prog 54 #[.slice a n c] w (CloneRes w 3 1 n (iC es n)) := by
  have HE := fun (W : World) => Lib.run_eql_slice_nil (P := Tryz.prog) (w := W)
  cases a with
  | none =>
    obtain rfl := hna rfl
    go_enter Tryz.func54, Tryz.ntmps54
    go_wp2
    go_ret
    exact clone_done ⟨rfl, .inl ⟨rfl, rfl⟩⟩ (Below.refl _ _)
  | some ad =>
    have hnews : ∀ j u, (iC es n)[j]? = some u → w.cell? (ad.add j) = some u := by
      intro j u hu
      have hj : j < n := by have := (List.getElem?_eq_some_iff.1 hu).1; rwa [iC_len] at this
      rcases hD with h0 | ⟨b, off, ha, hb, hc⟩
      · omega
      · injection ha with ha; subst ha
        rw [addr_add, hc j hj, ← hu, iC_get hj]
    have hlt : ∀ j u, (iC es n)[j]? = some u → (w.alloc (.cells #[] 3)).cell? (ad.add j) = some u := by
      intro j u h
      exact (World.cell?_of_block (Below.heap_alloc w _ _ (World.block_lt_of_cell? w _ (hnews j u h)))).trans (hnews j u h)
    have HN := Lib.hid hlt
    clear hnews hlt hD
    obtain ⟨i0, hi, hz0, hz1, hz2⟩ := info_parts info_int
    go_enter Tryz.func54, Tryz.ntmps54
    go_wp2_with (at_builtin; refine wpList_append_own _ rfl _ _ 24 rfl w.heap.size 3 i0 (.int .i64 0) 1 8 Tryz.underlying24 hi hz0 hz1 hz2 rfl (by decide) _ 0 [] rfl (World.ownsRow_made _ #[] 0 (Nat.le_refl _) (by decide) rfl) ad n c (iC es n) rfl (by rw [iC_len, Nat.mul_one]) HN.out iC_one (by unfold maxLen; omega) (by omega) (by simp) ?_; intro v' w3 hown hgrow hnil)
    have hb : Below w.heap.size w w3 := ((Below.refl _ _).alloc (Nat.le_refl _) _).grown hgrow (by simp) (fun k hk => by have hk' : some w.heap.size = some k := hk; injection hk' with hk'; omega)
    rw [Nat.zero_add, List.nil_append] at hown
    obtain ⟨a', c', rfl⟩ := own_len hown
    clear hgrow hnil
    go_wp2
    go_ret
    exact clone_done hown hb
/-- look, then fields: what the loop begins with -/
theorem look_fields {a : Option Addr} {n c : Nat} {ba : Option Addr} {m bc : Nat} {ss : Nat → SV} {bs : Nat → BM} {w W : World} {B : Nat} {e : Ending} {t : TypeId} (h : LookRes a n c ba m bc ss bs w e W) (hS : Spans B w a n ss) (hM : Beams B w ba m bs) (hBw : B ≤ w.heap.size) :
    e = .returned (.pointer (some ⟨w.heap.size + 1, 0, none⟩)) ∧ Below w.heap.size w W ∧ w.heap.size + 1 < W.heap.size ∧ SearchAt (Rk B w.heap.size (W.heap.size + 1)) n ss m bs (w.heap.size + 1) (W.alloc (.cells #[.pointer (some ⟨w.heap.size + 1, 0, none⟩)] t)) := by
  obtain ⟨he, wa, wc, ra, rc, ws, rs, lk⟩ := h
  exact ⟨he, lk.li.2.2.2, (Array.getElem?_eq_some_iff.1 lk.sbox).1, Search.box lk.li.2.2.2.size (lk.search hS hM hBw)⟩
theorem results_cells2 {P : Program} {fn : Func} {p1 p2 : Tmp} {t1 t2 : TypeId} {d1 d2 : TypeDesc} (h : fn.results = #[.cell p1 t1, .cell p2 t2]) (tmps : Array Value) (W : World) (b1 b2 : Nat) (v1 v2 : Value) (h1 : tmps.getD p1 undef = .pointer (some ⟨b1, 0, none⟩)) (h2 : tmps.getD p2 undef = .pointer (some ⟨b2, 0, none⟩))
    (u1 : P.underlying t1 = some d1) (u2 : P.underlying t2 = some d2) (r1 : d1.isRow = false) (r2 : d2.isRow = false) (c1 : W.cell? ⟨b1, 0, none⟩ = some v1) (c2 : W.cell? ⟨b2, 0, none⟩ = some v2) : (results fn tmps).run P W = .ok (.tuple #[v1, v2]) W := by
  have h1' : tmps[p1]?.getD undef = .pointer (some ⟨b1, 0, none⟩) := by simpa using h1
  have h2' : tmps[p2]?.getD undef = .pointer (some ⟨b2, 0, none⟩) := by simpa using h2
  have a1 : (isAgg t1).run P W = .ok false W := by cases d1 <;> simp_all [isAgg, run_underlying u1, TypeDesc.isRow]
  have a2 : (isAgg t2).run P W = .ok false W := by cases d2 <;> simp_all [isAgg, run_underlying u2, TypeDesc.isRow]
  simp [results, h, h1', h2', asAddr, loadVar, a1, a2, go_sem, c1, c2]
theorem three_allocs (W : World) (o1 o2 o3 : Obj) : Below W.heap.size W (((W.alloc o1).alloc o2).alloc o3) ∧ (((W.alloc o1).alloc o2).alloc o3).heap.size = W.heap.size + 1 + 1 + 1 ∧ (((W.alloc o1).alloc o2).alloc o3).heap[W.heap.size]? = some o1 ∧ (((W.alloc o1).alloc o2).alloc o3).heap[W.heap.size + 1]? = some o2 ∧ (((W.alloc o1).alloc o2).alloc o3).heap[W.heap.size + 1 + 1]? = some o3 := by
  have a1 := alloc_below W o1
  have a2 := alloc_below (W.alloc o1) o2
  have a3 := alloc_below ((W.alloc o1).alloc o2) o3
  have z1 : (W.alloc o1).heap.size = W.heap.size + 1 := by simp
  have z2 : ((W.alloc o1).alloc o2).heap.size = W.heap.size + 1 + 1 := by simp
  have b2 := a2.trans (a3.mono a2.size)
  refine ⟨a1.trans (b2.mono a1.size), by simp, alloc_kept b2, ?_, ?_⟩
  · have := alloc_kept (W := W.alloc o1) a3; rwa [z1] at this
  · have := heap_alloc_new ((W.alloc o1).alloc o2) o3; rwa [z2] at this
theorem below_put {N D : Nat} {w W : World} (h : Below N w W) (hD : N ≤ D) (o : Obj) : Below N w (W.putObj D o) := h.trans ⟨rfl, rfl, rfl, by simp, fun b hb => World.putObj_heap_other (by omega)⟩
/-- a function is left behind a loop over the fields -/
theorem leave_marked {P : Program} {fn : Func} {R : Ending → World → Prop} {tmps : Array Value} {W : World} {D n : Nat} {v : Value} (hK : W.heap[D]? = some (.deferred (some [])))
    (h : ∀ o', (results fn tmps).run P (W.putObj D o') = .ok v (W.putObj D o') ∧ R (.returned v) (W.putObj D o')) : bodyPostM Fence.wide n P fn R .ret { tmps := tmps, defers := [{ target := .collected D, args := #[] }] } W := by
  refine ⟨by simp, .inl ⟨_, _, rfl, run_takeDeferred hK, ?_⟩⟩
  obtain ⟨h1, h2⟩ := h _
  exact ⟨_, h1, h2⟩
/-- an image in a box, and two cells for results behind it -/
structure RB (a : Option Addr) (n c : Nat) (ba : Option Addr) (m bc : Nat) (w : World) (t1 t2 : TypeId) (v1 v2 : Value) (W : World) : Prop where
  li : LI a n c ba m bc w W
  r1 : W.heap[w.heap.size + 1]? = some (.cells #[v1] t1)
  r2 : W.heap[w.heap.size + 1 + 1]? = some (.cells #[v2] t2)
section
variable {a : Option Addr} {n c : Nat} {ba : Option Addr} {m bc : Nat} {w : World} {t1 t2 : TypeId} {v1 v2 : Value} {W W' : World}
theorem RB.start {t : TypeId} : RB a n c ba m bc w t1 t2 v1 v2 (((w.alloc (.cells #[.slice a n c, .slice ba m bc] t)).alloc (.cells #[v1] t1)).alloc (.cells #[v2] t2)) := by
  have z1 : (w.alloc (.cells #[.slice a n c, .slice ba m bc] t)).heap.size = w.heap.size + 1 := by simp
  have z2 : ((w.alloc (.cells #[.slice a n c, .slice ba m bc] t)).alloc (.cells #[v1] t1)).heap.size = w.heap.size + 1 + 1 := by simp
  have b1 := alloc_below (w.alloc (.cells #[.slice a n c, .slice ba m bc] t)) (.cells #[v1] t1)
  have b2 := alloc_below ((w.alloc (.cells #[.slice a n c, .slice ba m bc] t)).alloc (.cells #[v1] t1)) (.cells #[v2] t2)
  refine ⟨LI_step (LI_step LI_start b1) b2, ?_, ?_⟩
  · have := alloc_kept b2; rwa [z1] at this
  · have := heap_alloc_new ((w.alloc (.cells #[.slice a n c, .slice ba m bc] t)).alloc (.cells #[v1] t1)) (.cells #[v2] t2); rwa [z2] at this
theorem RB.step (h : RB a n c ba m bc w t1 t2 v1 v2 W) (hb : Below W.heap.size W W') : RB a n c ba m bc w t1 t2 v1 v2 W' :=
  ⟨LI_step h.li hb, (hb.block _ (Array.getElem?_eq_some_iff.1 h.r1).1).trans h.r1, (hb.block _ (Array.getElem?_eq_some_iff.1 h.r2).1).trans h.r2⟩
theorem RB.c1 (h : RB a n c ba m bc w t1 t2 v1 v2 W) : W.cell? ⟨w.heap.size + 1, 0, none⟩ = some v1 := cell_of_row _ _ _ _ _ _ h.r1
theorem RB.c2 (h : RB a n c ba m bc w t1 t2 v1 v2 W) : W.cell? ⟨w.heap.size + 1 + 1, 0, none⟩ = some v2 := cell_of_row _ _ _ _ _ _ h.r2
theorem RB.f1 (h : RB a n c ba m bc w t1 t2 v1 v2 W) : W.frozen? ⟨w.heap.size + 1, 0, none⟩ = false := frozen_of_row _ _ _ _ _ h.r1
theorem RB.f2 (h : RB a n c ba m bc w t1 t2 v1 v2 W) : W.frozen? ⟨w.heap.size + 1 + 1, 0, none⟩ = false := frozen_of_row _ _ _ _ _ h.r2
theorem RB.size (h : RB a n c ba m bc w t1 t2 v1 v2 W) : w.heap.size + 1 + 1 < W.heap.size := (Array.getElem?_eq_some_iff.1 h.r2).1
theorem RB.set (h : RB a n c ba m bc w t1 t2 v1 v2 W) (u1 u2 : Value) : RB a n c ba m bc w t1 t2 u1 u2 ((W.setCell ⟨w.heap.size + 1, 0, none⟩ u1).setCell ⟨w.heap.size + 1 + 1, 0, none⟩ u2) := by
  obtain ⟨l0, l1, l2, l3⟩ := h.li
  have far : ∀ b, b ≠ w.heap.size + 1 → b ≠ w.heap.size + 1 + 1 → ((W.setCell ⟨w.heap.size + 1, 0, none⟩ u1).setCell ⟨w.heap.size + 1 + 1, 0, none⟩ u2).heap[b]? = W.heap[b]? := fun b e1 e2 =>
    (heap_setCell_other _ ⟨w.heap.size + 1 + 1, 0, none⟩ b _ e2).trans (heap_setCell_other W ⟨w.heap.size + 1, 0, none⟩ b _ e1)
  refine ⟨⟨(World.cell?_of_block (far _ (by show w.heap.size ≠ _; omega) (by show w.heap.size ≠ _; omega))).trans l0, (World.cell?_of_block (far _ (by show w.heap.size ≠ _; omega) (by show w.heap.size ≠ _; omega))).trans l1, by simpa using l2, (l3.setCell (p := ⟨w.heap.size + 1, 0, none⟩) (by show w.heap.size ≤ w.heap.size + 1; omega) _).setCell (p := ⟨w.heap.size + 1 + 1, 0, none⟩) (by show w.heap.size ≤ w.heap.size + 1 + 1; omega) _⟩, ?_, ?_⟩
  · exact (heap_setCell_other _ ⟨w.heap.size + 1 + 1, 0, none⟩ (w.heap.size + 1) _ (by show w.heap.size + 1 ≠ w.heap.size + 1 + 1; omega)).trans (heap_setCell_same W _ 0 _ _ u1 h.r1)
  · exact heap_setCell_same _ _ 0 _ _ u2 ((heap_setCell_other W ⟨w.heap.size + 1, 0, none⟩ (w.heap.size + 1 + 1) _ (by show w.heap.size + 1 + 1 ≠ w.heap.size + 1; omega)).trans h.r2)
end
end Go.Proofs.YtkdopjkdokgipaaGreatDoor
