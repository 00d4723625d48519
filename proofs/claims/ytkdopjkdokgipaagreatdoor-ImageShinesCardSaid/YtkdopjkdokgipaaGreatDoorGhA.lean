/- Texts put together: ImFr0, ImNear, RegRound, ImApp, ImProof. -/
import Derived.Test.YtkdopjkdokgipaaGreatDoorGgA
import Derived.Test.YtkdopjkdokgipaaGreatDoorImApart
import Derived.Test.YtkdopjkdokgipaaGreatDoorBase
import Derived.Sort.QuietIn
import Derived.Sort.QuietThIn
import Derived.RegionIn
import Derived.Test.YtkdopjkdokgipaaGreatDoorGfA
import Derived.Test.YtkdopjkdokgipaaGreatDoorGaA
namespace Go.Proofs.YtkdopjkdokgipaaGreatDoor
open Go.RowKit
set_option linter.unusedVariables false
set_option linter.unusedSimpArgs false
/-- a row of truth values -/
def TR (W : World) (b m : Nat) (f : Nat → Bool) : Prop := ∃ cur, W.heap[b]? = some (.cells cur 4) ∧ cur.size = m ∧ ∀ j, j < m → cur[j]? = some (.bool (f j))
section
variable {W W' : World} {b m : Nat} {f : Nat → Bool}
theorem TR.lt (h : TR W b m f) : b < W.heap.size := by obtain ⟨cur, h1, _⟩ := h; exact (Array.getElem?_eq_some_iff.1 h1).1
theorem TR.cell (h : TR W b m f) {j : Nat} (hj : j < m) : W.cell? ⟨b, j, none⟩ = some (.bool (f j)) := by
  obtain ⟨cur, h1, _, h2⟩ := h
  exact (cell_of_row _ _ _ _ _ _ h1).trans (h2 j hj)
theorem TR.frozen (h : TR W b m f) (j : Nat) : W.frozen? ⟨b, j, none⟩ = false := by
  obtain ⟨cur, h1, _, h2⟩ := h
  exact frozen_of_row _ _ _ _ _ h1
theorem TR.block (h : TR W b m f) (hb : W'.heap[b]? = W.heap[b]?) : TR W' b m f := by
  obtain ⟨cur, h1, h2, h3⟩ := h
  exact ⟨cur, hb.trans h1, h2, h3⟩
theorem TR.step (h : TR W b m f) (hb : Below W.heap.size W W') : TR W' b m f := h.block (hb.block b h.lt)
theorem TR.alloc (h : TR W b m f) (o : Obj) : TR (W.alloc o) b m f := h.block (Below.heap_alloc W o b h.lt)
theorem TR.drew (h : TR W b m f) : TR W.drew b m f := h
theorem TR.set (h : TR W b m f) {i : Nat} (hi : i < m) (x : Bool) : TR (W.setCell ⟨b, i, none⟩ (.bool x)) b m (fun j => if j = i then x else f j) := by
  obtain ⟨cur, h1, h2, h3⟩ := h
  refine ⟨cur.setIfInBounds i (.bool x), heap_setCell_same W b i _ _ _ h1, by simpa using h2, fun j hj => ?_⟩
  by_cases e : j = i
  · subst e
    rw [Array.getElem?_setIfInBounds_self_of_lt (by omega)]
    simp
  · rw [Array.getElem?_setIfInBounds_ne (Ne.symm e), h3 j hj]
    simp [e]
theorem TR.other (h : TR W b m f) {x j : Nat} (hn : x ≠ b) (u : Value) : TR (W.setCell ⟨x, j, none⟩ u) b m f := h.block (heap_setCell_other W ⟨x, j, none⟩ b u (Ne.symm hn))
theorem TR.congr {g : Nat → Bool} (h : TR W b m f) (e : ∀ j, j < m → f j = g j) : TR W b m g := by
  obtain ⟨cur, h1, h2, h3⟩ := h
  exact ⟨cur, h1, h2, fun j hj => by rw [← e j hj]; exact h3 j hj⟩
theorem TR.made (W : World) (m : Nat) : TR (W.alloc (.cells (madeCells #[.bool false] m) 4)) W.heap.size m (fun _ => false) := by
  have e : (madeCells #[Value.bool false] m).toList = List.replicate m (.bool false) := toList_madeCells_one _ _
  refine ⟨_, heap_alloc_new W _, ?_, fun j hj => ?_⟩
  · have := congrArg List.length e
    simpa using this
  · rw [← Array.getElem?_toList, e]
    simp [hj]
end
/-! ### which cells stay free -/
/-- whether a beam holds a cell, at a field -/
def bindB (ss : Nat → SV) (b : BM) (f : Nat → Int) (s : Int) (c : Nat) : Bool :=
  decide (0 < b.w c) && (decide (s - b.w c * (f c - (ss c).lo) < b.lo) || decide (b.hi < s + b.w c * ((ss c).hi - f c)))
/-- no beam below i holds a cell, nor does beam i, if the cell lies below k -/
def openTo (ss : Nat → SV) (bs : Nat → BM) (f : List Int) (i k c : Nat) : Bool := allUpto i (fun j => !bindB ss (bs j) (fOf f) (sumsOf bs f j) c) && (decide (k ≤ c) || !bindB ss (bs i) (fOf f) (sumsOf bs f i) c)
def openAll (ss : Nat → SV) (m : Nat) (bs : Nat → BM) (f : List Int) (c : Nat) : Bool := allUpto m (fun j => !bindB ss (bs j) (fOf f) (sumsOf bs f j) c)
/-- the cells that are free behind some fields -/
def freeC (ss : Nat → SV) (m : Nat) (bs : Nat → BM) (l : List (List Int)) (c : Nat) : Bool := decide ((ss c).lo < (ss c).hi) && l.all (fun f => openAll ss m bs f c)
theorem allUpto_succ (n : Nat) (f : Nat → Bool) : allUpto (n + 1) f = (allUpto n f && f n) := by simp [allUpto, List.range_succ]
theorem openTo_zero {ss : Nat → SV} {bs : Nat → BM} {f : List Int} {c : Nat} : openTo ss bs f 0 0 c = true := by simp [openTo, allUpto]
theorem openTo_step {ss : Nat → SV} {bs : Nat → BM} {f : List Int} {i k c : Nat} : openTo ss bs f i (k + 1) c = if c = k then openTo ss bs f i k c && !bindB ss (bs i) (fOf f) (sumsOf bs f i) c else openTo ss bs f i k c := by
  unfold openTo
  by_cases e : c = k
  · subst e
    rw [if_pos rfl, decide_eq_false (by omega : ¬ c + 1 ≤ c), decide_eq_true (Nat.le_refl c)]
    simp
  · rw [if_neg e]
    by_cases h : k ≤ c
    · rw [decide_eq_true h, decide_eq_true (by omega : k + 1 ≤ c)]
    · rw [decide_eq_false h, decide_eq_false (by omega : ¬ k + 1 ≤ c)]
theorem openTo_next {ss : Nat → SV} {bs : Nat → BM} {f : List Int} {i n c : Nat} (hc : c < n) : openTo ss bs f i n c = openTo ss bs f (i + 1) 0 c := by
  unfold openTo
  rw [decide_eq_false (by omega : ¬ n ≤ c), decide_eq_true (Nat.zero_le c), allUpto_succ]
  simp
theorem openTo_end {ss : Nat → SV} {m : Nat} {bs : Nat → BM} {f : List Int} {c : Nat} : openTo ss bs f m 0 c = openAll ss m bs f c := by simp [openTo, openAll]
theorem openTo_hit {ss : Nat → SV} {bs : Nat → BM} {f : List Int} {i k : Nat} {g : Bool} {j : Nat} (h : bindB ss (bs i) (fOf f) (sumsOf bs f i) k = true) : (if j = k then false else (g && openTo ss bs f i k j)) = (g && openTo ss bs f i (k + 1) j) := by
  rw [openTo_step]
  by_cases e : j = k
  · subst e; rw [if_pos rfl, if_pos rfl, h]; simp
  · rw [if_neg e, if_neg e]
theorem openTo_miss {ss : Nat → SV} {bs : Nat → BM} {f : List Int} {i k : Nat} {g : Bool} {j : Nat} (h : bindB ss (bs i) (fOf f) (sumsOf bs f i) k = false) : (g && openTo ss bs f i k j) = (g && openTo ss bs f i (k + 1) j) := by
  rw [openTo_step]
  by_cases e : j = k
  · subst e; rw [if_pos rfl, h]; simp
  · rw [if_neg e]
theorem freeC_snoc {ss : Nat → SV} {m : Nat} {bs : Nat → BM} {l : List (List Int)} {f : List Int} {c : Nat} : freeC ss m bs (l ++ [f]) c = (freeC ss m bs l c && openAll ss m bs f c) := by
  simp [freeC, List.all_append, Bool.and_assoc]
/-- the free cells below k, in order -/
def freeL (g : Nat → Bool) (k : Nat) : List Nat := (List.range k).filter g
theorem freeL_succ (g : Nat → Bool) (k : Nat) : freeL g (k + 1) = if g k = true then freeL g k ++ [k] else freeL g k := by
  unfold freeL
  rw [List.range_succ, List.filter_append]
  cases h : g k <;> simp [h]
theorem freeL_len (g : Nat → Bool) (k : Nat) : (freeL g k).length ≤ k := by
  have := List.length_filter_le g (List.range k)
  simpa [freeL] using this
/-- numbers as cells -/
def nC (l : List Nat) : List Value := l.map fun (i : Nat) => .int .i64 (i : Int)
theorem nC_len {l : List Nat} : (nC l).length = l.length := by simp [nC]
theorem nC_snoc {l : List Nat} {k : Nat} : nC (l ++ [k]) = nC l ++ [.int .i64 (k : Int)] := by simp [nC]
theorem int_one {x : Int} : ∀ u ∈ [Value.int .i64 x], u.oneCell' = true := by intro u hu; simp at hu; subst hu; rfl
theorem own_block_le {w : World} {base : Nat} {e : TypeId} {k : Nat} {v : Value} {n : Nat} {xs : List Value} (h : w.ownsRow base e k v n xs) {b : Nat} (hb : v.ownBlock = some b) : base ≤ b := by
  rcases h.2 with ⟨rfl, _⟩ | ⟨g, cap, cur, rfl, h1, _⟩
  · cases hb
  · simp only [Value.ownBlock, Option.some.injEq] at hb; omega
theorem own_put {w : World} {base D : Nat} {e : TypeId} {k : Nat} {v : Value} {n : Nat} {xs : List Value} (h : w.ownsRow base e k v n xs) (hD : D < base) (o : Obj) : (w.putObj D o).ownsRow base e k v n xs := by
  refine ⟨h.1, ?_⟩
  rcases h.2 with h | ⟨g, cap, cur, hv, h1, h2, h3⟩
  · exact .inl h
  · exact .inr ⟨g, cap, cur, hv, h1, (World.putObj_heap_other (by omega)).trans h2, h3⟩
end Go.Proofs.YtkdopjkdokgipaaGreatDoor
namespace Go.Proofs.YtkdopjkdokgipaaGreatDoor
open Go.RowKit
set_option linter.unusedVariables false
set_option linter.unusedSimpArgs false
set_option maxRecDepth 100000 in
set_option maxHeartbeats 1000000 in
theorem containsF_any (ka : Option Addr) (n kc : Nat) (k : List (List Int)) (fa : Option Addr) (fc : Nat) (f : List Int) (ch : Int) (fB cB : Nat) (w : World) (hK : Flds w.heap.size w ka n k) (hkl : k.length ≤ 1000000) (hF : Ints w.heap.size w fa n (fOf f)) (hfB : w.cell? ⟨fB, 0, none⟩ = some (.slice fa n fc)) (hcB : w.cell? ⟨cB, 0, none⟩ = some (.int .i64 ch)) (hn : n ≤ 1000000) (hx : DenseL n k) (hf : DenseF n (fOf f)) :
    Calls Tryz.prog 97 #[.slice ka k.length kc, .func (.func 98) #[] #[.pointer (some ⟨fB, 0, none⟩), .pointer (some ⟨cB, 0, none⟩)]] w fun e w' => e = .returned (.bool (k.any (fun x => decide (apartL n x f ≤ ch)))) ∧ Below w.heap.size w w' := by
  have HC := Lib.hid (indexF_any ka n kc k fa fc f ch fB cB w hK hkl hF hfB hcB hn hx hf)
  generalize k.any (fun x => decide (apartL n x f ≤ ch)) = A at *
  generalize k.length = kl at *
  clear hK hF hfB hcB hx hf
  go_enter Tryz.func97, Tryz.ntmps97
  go_wp2_with (go_at_call 120; refine HC.out.mono ?_; rintro e w2 ⟨⟨r, rfl, hr⟩, hb⟩)
  go_ret
  exact ⟨rfl, hb⟩
/-- the fields near others, found so far -/
structure NearI (W1 : World) (n : Nat) (L : List (List Int)) (oa : Option Addr) (q oc : Nat) (xs : List Value) (wr : World) : Prop where
  below : Below W1.heap.size W1 wr
  len : q = L.length
  own : wr.ownsRow W1.heap.size 24 1 (.slice oa q oc) q xs
  rows : ∀ j, j < L.length → ∃ ra rc, xs[j]? = some (.slice ra n rc) ∧ Ints W1.heap.size W1 ra n (fOf (L.getD j []))
theorem NearI.step {W1 : World} {n : Nat} {L : List (List Int)} {oa : Option Addr} {q oc : Nat} {xs : List Value} {wr wx : World} (h : NearI W1 n L oa q oc xs wr) (hb : Below wr.heap.size wr wx) : NearI W1 n L oa q oc xs wx :=
  ⟨h.below.trans (hb.mono h.below.size), h.len, own_below h.own hb, h.rows⟩
theorem NearI.push {W1 : World} {n : Nat} {L : List (List Int)} {oa a3 : Option Addr} {q oc c3 : Nat} {xs : List Value} {wr wx : World} {f : List Int} {ra : Option Addr} {rc : Nat} (h : NearI W1 n L oa q oc xs wr) (hI : Ints W1.heap.size W1 ra n (fOf f)) (ho : wx.ownsRow W1.heap.size 24 1 (.slice a3 (q + 1) c3) (q + 1) (xs ++ [.slice ra n rc])) (hg : wr.grownBy wx (Value.slice oa q oc).ownBlock) : NearI W1 n (L ++ [f]) a3 (q + 1) c3 (xs ++ [.slice ra n rc]) wx := by
  have hxl : xs.length = q := by have := h.own.1; omega
  have hql := h.len
  refine ⟨h.below.grown hg h.below.size (fun b hb => own_block_le h.own hb), by simp [h.len], ho, fun j hj => ?_⟩
  rw [List.length_append, List.length_singleton] at hj
  by_cases e : j < L.length
  · obtain ⟨ra', rc', h1, h2⟩ := h.rows j e
    refine ⟨ra', rc', by rw [List.getElem?_append_left (by omega)]; exact h1, ?_⟩
    rw [List.getD_eq_getElem?_getD, List.getElem?_append_left e, ← List.getD_eq_getElem?_getD]
    exact h2
  · have ej : j = L.length := by omega
    refine ⟨ra, rc, by rw [List.getElem?_append_right (by omega), show j - xs.length = 0 by have := h.len; omega]; rfl, ?_⟩
    rw [List.getD_eq_getElem?_getD, List.getElem?_append_right (by omega), show j - L.length = 0 by omega]
    exact hI
theorem own_addr_le {w : World} {base : Nat} {e : TypeId} {k n m c b off : Nat} {a : Option Addr} {xs : List Value} (h : w.ownsRow base e k (.slice a m c) n xs) (ha : a = some ⟨b, off, none⟩) : base ≤ b := by
  rcases h.2 with ⟨hv, _⟩ | ⟨g, cap, cur, hv, h1, _⟩
  · injection hv with e1; rw [ha] at e1; cases e1
  · injection hv with e1
    rw [ha] at e1
    injection e1 with e1
    injection e1 with e1
    omega
theorem NearI.flds {W1 : World} {n : Nat} {L : List (List Int)} {oa : Option Addr} {q oc : Nat} {xs : List Value} {wr : World} (h : NearI W1 n L oa q oc xs wr) : Flds wr.heap.size wr oa n L := by
  by_cases hL : L = []
  · exact .inl hL
  · have hl : 0 < L.length := List.length_pos_iff.2 hL
    obtain ⟨g, rfl, h1, h2⟩ := own_at h.own (by have := h.len; omega)
    refine .inr ⟨g, 0, rfl, h2, fun i hi => ?_⟩
    obtain ⟨ra, rc, h3, h4⟩ := h.rows i hi
    refine ⟨ra, rc, ?_, (h4.below h.below).up h.below.size⟩
    rw [Nat.zero_add, h.own.cellAt i (by have := h.len; omega)]
    exact h3
theorem nearF_take {n : Nat} {c : Int} {l k : List (List Int)} {i : Nat} (hi : i < l.length) : nearF n c (l.take (i + 1)) k = if k.any (fun x => decide (apartL n x (l.getD i []) ≤ c)) = true then nearF n c (l.take i) k ++ [l.getD i []] else nearF n c (l.take i) k := by
  unfold nearF
  rw [List.take_add_one, List.filter_append, List.getElem?_eq_getElem hi, List.getD_eq_getElem?_getD, List.getElem?_eq_getElem hi]
  cases h : k.any (fun x => decide (apartL n x l[i] ≤ c)) <;> simp [h]
/-- what near hands back -/
def NearRes (n : Nat) (L : List (List Int)) (w : World) (e : Ending) (w' : World) : Prop := Below w.heap.size w w' ∧ ∃ a c, e = .returned (.slice a L.length c) ∧ Flds w'.heap.size w' a n L ∧ ∀ b off, a = some ⟨b, off, none⟩ → w.heap.size ≤ b
set_option maxRecDepth 100000 in
set_option maxHeartbeats 2000000 in
theorem near_any (la : Option Addr) (n lc : Nat) (l : List (List Int)) (ka : Option Addr) (kc : Nat) (k : List (List Int)) (ch : Int) (w : World) (hL : Flds w.heap.size w la n l) (hK : Flds w.heap.size w ka n k) (hll : l.length ≤ 1000000) (hkl : k.length ≤ 1000000) (hn : n ≤ 1000000) (hdl : DenseL n l) (hdk : DenseL n k) :
    Calls Tryz.prog 67 #[.slice la l.length lc, .slice ka k.length kc, .int .i64 ch] w (NearRes n (nearF n ch l k) w) := by
  have HL := Lib.hid hL
  have HK := Lib.hid hK
  have HDL := Lib.hid hdl
  have HDK := Lib.hid hdk
  have HNT := Lib.hid (fun i (hi : i < l.length) => nearF_take (n := n) (c := ch) (k := k) hi)
  have HEN := Lib.hid (show nearF n ch (l.take l.length) k = nearF n ch l k from by rw [List.take_length])
  obtain ⟨i1, hi1, hz10, hz11, hz12⟩ := info_parts info_ints
  have HR := Lib.hid (fun (w' : World) (hb : Below w.heap.size w w') (a : Option Addr) (q c : Nat) (hq : q = (nearF n ch l k).length) (hf : Flds w'.heap.size w' a n (nearF n ch l k)) (ha : ∀ b off, a = some ⟨b, off, none⟩ → w.heap.size ≤ b) => show NearRes n (nearF n ch l k) w (.returned (.slice a q c)) w' from ⟨hb, a, c, by rw [hq], hf, ha⟩)
  generalize NearRes n (nearF n ch l k) w = RES at *
  obtain ⟨ll, hll2⟩ : ∃ ll, l.length = ll := ⟨_, rfl⟩
  obtain ⟨kl, hkl2⟩ : ∃ kl, k.length = kl := ⟨_, rfl⟩
  have HLL := Lib.hid hll2
  have HKL := Lib.hid hkl2
  rw [hll2] at HNT HEN hll ⊢
  rw [hkl2] at hkl ⊢
  clear hL hK hdl hdk hll2 hkl2
  go_enter Tryz.func67, Tryz.ntmps67
  go_upto_region 1 with (fail)
  have HB1 := Lib.hid (alloc_below w (.cells #[.int .i64 ch] 3))
  have HN1 := Lib.hid (heap_alloc_new w (.cells #[.int .i64 ch] 3))
  have hz1 : (w.alloc (.cells #[.int .i64 ch] 3)).heap.size = w.heap.size + 1 := by simp
  generalize World.alloc w _ = W1 at *
  go_wp2
  go_loopw [7, 12] (fun s7 t wr => ∃ (i q : Nat) (oa : Option Addr) (oc : Nat) (xs : List Value), i ≤ ll ∧ q ≤ i ∧ t = .int .i64 (i : Int) ∧ s7 = .slice oa q oc ∧ Hid (NearI W1 n (nearF n ch (l.take i) k) oa q oc xs wr)) (fun _ t _ => ll - (intOf t).toNat)
  case atStart => exact ⟨0, 0, none, 0, [], Nat.zero_le _, Nat.zero_le _, rfl, rfl, Lib.hid ⟨Below.refl _ _, rfl, World.ownsRow_nil _ _ _ _, fun j hj => by simp [nearF] at hj⟩⟩
  case round =>
    obtain ⟨i, q, oa, oc, xs, hil, hqi, rfl, rfl, HX⟩ := hrel
    have hzr := HX.out.below.size
    have hb2 : Below w.heap.size w wr := HB1.out.trans (HX.out.below.mono (by omega))
    by_cases hlt : i < ll
    · have hlt' : (i : Int) < (ll : Int) := by omega
      obtain ⟨b, off, ra, rc, rfl, hbz, x0, x1⟩ := HL.out.get (i := i) (by rw [HLL.out]; exact hlt)
      have x2 := ((bcell hb2).1 _ _ hbz).trans x0
      have hbr : b < wr.heap.size := by have := hb2.size; omega
      have c0 := ((bcell HX.out.below).1 w.heap.size 0 (by omega)).trans (cell_of_row _ _ 0 _ _ _ HN1.out)
      go_upto_region 5 with (fail)
      have HX2 := Lib.hid (HX.out.step (alloc_below wr (.cells #[.slice ra n rc] 24)))
      have hN2 := heap_alloc_new wr (.cells #[.slice ra n rc] 24)
      have hb3 : Below w.heap.size w (wr.alloc (.cells #[.slice ra n rc] 24)) := hb2.trans ((alloc_below wr _).mono hb2.size)
      have hz2 : (wr.alloc (.cells #[.slice ra n rc] 24)).heap.size = wr.heap.size + 1 := by simp
      have c1 := ((bcell (alloc_below wr (.cells #[.slice ra n rc] 24))).1 w.heap.size 0 (by omega)).trans c0
      clear c0 x0 x2 HX
      generalize World.alloc wr _ = V at *
      generalize wr.heap.size = bx at *
      have c2 : V.cell? ⟨bx, 0, none⟩ = some (.slice ra n rc) := cell_of_row _ _ _ _ _ _ hN2
      have HI := Lib.hid (show Ints W1.heap.size W1 ra n (fOf (l.getD i [])) from (x1.below HB1.out).up (by omega))
      have HCF := Lib.hid (containsF_any ka n kc k ra rc (l.getD i []) ch bx w.heap.size V ((HK.out.below hb3).up hb3.size) (by rw [HKL.out]; exact hkl) ((x1.below hb3).up hb3.size) c2 c1 hn HDK.out (HDL.out.get (by rw [HLL.out]; exact hlt)))
      rw [HKL.out] at HCF
      have HNI := Lib.hid (HNT.out i hlt)
      clear x1
      cases hA : k.any (fun x => decide (apartL n x (l.getD i []) ≤ ch))
      · rw [hA] at HCF HNI
        rw [if_neg (by simp)] at HNI
        clear hA
        go_wp2_with (go_at_call 97; refine HCF.out.mono ?_; rintro e w2 ⟨rfl, hb⟩)
        go_roundw
        case rel => exact ⟨i + 1, q, oa, oc, xs, by omega, by omega, by go_num, rfl, by rw [HNI.out]; exact Lib.hid (HX2.out.step hb)⟩
        case measure => simp [intOf]; omega
      · rw [hA] at HCF HNI
        rw [if_pos rfl] at HNI
        clear hA
        go_upto_region 6 with (go_at_call 97; refine HCF.out.mono ?_; rintro e w2 ⟨rfl, hb⟩)
        have HX3 := Lib.hid (HX2.out.step hb)
        have c3 := ((bcell hb).1 bx 0 (by omega)).trans c2
        have hzW : W1.heap.size ≤ w2.heap.size := HX3.out.below.size
        clear HX2 c1 c2 hb3 HCF
        go_wp2_with (at_builtin; refine wpList_append_own _ rfl _ _ 138 rfl W1.heap.size 24 i1 (.slice none 0 0) 1 24 Tryz.underlying138 hi1 hz10 hz11 hz12 rfl (by decide) _ q xs rfl (HX3.out.step (alloc_below w2 _)).own ⟨w2.heap.size, 0, none⟩ 1 1 [.slice ra n rc] rfl rfl cells_new one_slice (by unfold maxLen; omega) (by omega) (by simp; omega) ?_; intro v' w3 hown hgrow hnil; obtain ⟨a3, c4, rfl⟩ := own_len hown)
        have HX4 := Lib.hid (NearI.push (HX3.out.step (alloc_below w2 _)) HI.out hown hgrow)
        go_roundw
        case rel => exact ⟨i + 1, q + 1, a3, c4, _, by omega, by omega, by go_num, rfl, by rw [HNI.out]; exact HX4⟩
        case measure => simp [intOf]; omega
    · obtain rfl : ll = i := by omega
      have hlt' : ¬ (ll : Int) < (ll : Int) := by omega
      go_wp2
      exact HR.out _ hb2 _ _ _ (by rw [← HEN.out]; exact HX.out.len) (by rw [← HEN.out]; exact HX.out.flds) (fun b off hb => by have := own_addr_le HX.out.own hb; omega)
end Go.Proofs.YtkdopjkdokgipaaGreatDoor
namespace Go.Proofs.YtkdopjkdokgipaaGreatDoor
open Go.RowKit
set_option linter.unusedVariables false
set_option linter.unusedSimpArgs false
/-- no operation of the region is a 'defer' -/
def plainOps (ops : Array Oper) : Prop := ∀ (i : Nat) (o : Oper), ops[i]? = some o → ∀ c, o.op ≠ .defer c
def plainB : List Oper → Bool
  | [] => true
  | o :: t => (match o.op with | .defer _ => false | _ => true) && plainB t
theorem plain_list : ∀ (l : List Oper), plainB l = true → ∀ o ∈ l, ∀ c, o.op ≠ .defer c
  | [], _, o, ho, _ => by cases ho
  | x :: t, h, o, ho, c => by
    rw [plainB, Bool.and_eq_true] at h
    rcases List.mem_cons.1 ho with e | e
    · subst e
      intro hc
      rw [hc] at h
      simp at h
    · exact plain_list t h.2 o e c
theorem plain_of {l : List Oper} (h : plainB l = true) : plainOps l.toArray := fun i o ho => plain_list l h o (by
  have : l[i]? = some o := by simpa using ho
  exact List.mem_of_getElem? this)
section
variable {F : Fence} {n : Nat} {P : Program} {ops : Array Oper} {Q : Exit → Act → World → Prop}
theorem oper_round (hro : F.round = none) (l : Nat) {o : Oper} (hd : ∀ c, o.op ≠ .defer c) {a : Act} {w : World} {K : Act → World → Prop} (h : o.wpIn F n P a w K Q) : o.wpIn (F.inRound l) n P a w K Q := by
  refine ⟨h.1, ?_⟩
  have h2 := h.2
  rw [Oper.semAt_eq _ _ _ hd] at h2 ⊢
  exact h2
theorem any_round (hro : F.round = none) (l : Nat) (hd : plainOps ops) : ∀ (fuel : Nat) (listed : Array Bool) (a : Act) (w : World), wpAnyIn F n P .any ops Q fuel listed a w → wpAnyIn (F.inRound l) n P .any ops Q fuel listed a w
  | 0, _, _, _, h => h
  | fuel + 1, listed, a, w, h => ⟨h.1, fun i hi => by
    have h1 := h.2 i hi
    unfold wpOpIn at *
    cases ho : ops[i]? with
    | none =>
      simp only [ho] at h1
      exact any_round hro l hd fuel _ _ _ h1
    | some o =>
      simp only [ho] at h1
      by_cases hw : Region.wanted o (yielded ops a.tmps) = true
      · simp only [hw, if_true] at h1 ⊢
        exact oper_round hro l (hd i o ho) (Oper.wpIn_mono (fun a w => any_round hro l hd fuel _ a w) h1)
      · simp only [hw] at h1 ⊢
        exact ⟨h1.1, any_round hro l hd fuel _ _ _ h1.2⟩⟩
theorem wpIn_region_round (hro : F.round = none) {l : Nat} {id : Nat} {a : Act} {w : World} (hm : P.follows .mixedOrders = true) (hd : plainOps ops)
    (h : wpAnyIn F n P .any ops Q ops.size (Array.replicate ops.size false) a { w with drawn := w.drawn + 1 }) : (Code.region id ops true).wpIn (F.inRound l) n P Q a w :=
  wpIn_region_any hm (any_round hro l hd _ _ _ _ h)
/-- one walk of the text's order, in a round -/
theorem wpIn_quiet_round {l : Nat} {id : Nat} {a : Act} {w : World} {L : List Oper} (hm : P.follows .mixedOrders = true) (hB : Region.lexB .any L.toArray = true) (hd : plainB L = true)
    (h : wpQuietIn Fence.wide n P L.toArray (fun w' => ∃ n, w' = w.drewN n) (fun a' => ∀ w', (∃ n, w' = w.drewN n) → Q .normal a' w') L a) : (Code.region id L.toArray true).wpIn (Fence.wide.inRound l) n P Q a w := by
  simp only [Region.lexB, Bool.and_eq_true] at hB
  refine wpIn_region_round rfl hm (plain_of hd) (wpAnyIn_of_quiet (C := fun w' => ∃ n, w' = w.drewN n) (Q := fun a' => ∀ w', (∃ n, w' = w.drewN n) → Q .normal a' w') rfl (fun _ w' hw' h => h w' hw') _ _ _ _ ⟨1, rfl⟩ ?_)
  have := wpAnyQIn_lex (F := Fence.wide) (n := n) (C := fun w' => ∃ n, w' = w.drewN n) (md := .any) hB.1 L 0 (Array.replicate L.toArray.size false) a (by simp) (by simpa using hB.2) h
  simpa using this
end
/-! ### a walk outside rounds serves in a round -/
section
variable {n : Nat} {P : Program} {ops : Array Oper} {Q : Exit → Act → World → Prop}
theorem oper_wide {o : Oper} {a : Act} {w : World} {K : Act → World → Prop} (h : o.wp P a w K Q) : o.wpIn Fence.wide n P a w K Q := by
  refine ⟨fun _ _ => trivial, ?_⟩
  show o.uponIn Fence.wide n P a K Q ((o.semAt none a.eval).run P w)
  rw [Oper.semAt_none]
  unfold Oper.wp at h
  generalize (execOp a.eval o).run P w = r at h ⊢
  cases r with
  | ok x w' =>
    cases x with
    | value v => exact h
    | skip => exact h
    | defer d => exact h
    | enter f args => exact ⟨fun h0 => (by cases h0), (callsIn_wide.2 h).mono (fun e w h => by cases e <;> exact h)⟩
    | row r args => exact ⟨fun h0 => (by cases h0), fun c cs _ => let ⟨v, w', r, s⟩ := h c cs; ⟨v, w', r, stepsIn_wide.2 s⟩⟩
    | _ => exact h.elim
  | halt x w' =>
    cases x with
    | panic v => exact h
    | _ => exact h.elim
theorem any_wide (hQ : ∀ a w, ¬ Q .outgrown a w) : ∀ (fuel : Nat) (listed : Array Bool) (a : Act) (w : World), wpAny P .any ops Q fuel listed a w → wpAnyIn Fence.wide n P .any ops Q fuel listed a w
  | 0, _, _, _, h => h
  | fuel + 1, listed, a, w, h => ⟨h.1, fun i hi => by
    have h1 := h.2 i hi
    unfold wpOp at h1
    unfold wpOpIn
    cases ho : ops[i]? with
    | none =>
      simp only [ho] at h1
      exact any_wide hQ fuel _ _ _ h1
    | some o =>
      simp only [ho] at h1
      by_cases hw : Region.wanted o (yielded ops a.tmps) = true
      · simp only [hw, if_true] at h1 ⊢
        rcases h1 with h1 | ⟨_, a0, w0, h2⟩
        · exact Oper.wpIn_mono (fun a w => any_wide hQ fuel _ a w) (oper_wide h1)
        · exact absurd h2 (hQ _ _)
      · simp only [hw] at h1 ⊢
        exact ⟨fun _ _ => trivial, any_wide hQ fuel _ _ _ h1⟩⟩
/-- a region that draws, in a round, by a walk outside rounds -/
theorem wpIn_any_round {l : Nat} {id : Nat} {a : Act} {w : World} {L : List Oper} (hm : P.follows .mixedOrders = true) (hd : plainB L = true) (hQ : ∀ a w, ¬ Q .outgrown a w)
    (h : wpAny P .any L.toArray Q L.toArray.size (Array.replicate L.toArray.size false) a { w with drawn := w.drawn + 1 }) : (Code.region id L.toArray true).wpIn (Fence.wide.inRound l) n P Q a w :=
  wpIn_region_round rfl hm (plain_of hd) (any_wide hQ _ _ _ _ h)
end
end Go.Proofs.YtkdopjkdokgipaaGreatDoor
namespace Go.Proofs.YtkdopjkdokgipaaGreatDoor
open Go.RowKit
set_option linter.unusedVariables false
set_option linter.unusedSimpArgs false
theorem run_append_nilsrc {P : Program} {w : World} (base : Nat) (t ty e : TypeId) (i : TypeInfo) (size : Nat) (ht : P.underlying t = some (.slice e)) (hi : P.info? e = some i)
    (v : Value) (n : Nat) (xs : List Value) (hown : w.ownsRow base e size v n xs) (c : Nat) : (Builtin.append_ #[t, t] ty #[v, .slice none 0 c]).run P w = .ok v w := by
  rcases hown.2 with ⟨rfl, rfl⟩ | ⟨g, cap, cur, rfl, _, _, hnc, _⟩
  · simp [Builtin.append_, run_underlying ht, sizeOf, typeInfo, hi, Builtin.lenOf, Builtin.firstCells]
  · simp [Builtin.append_, run_underlying ht, sizeOf, typeInfo, hi, Builtin.lenOf, Builtin.firstCells, hnc, storeCells]
theorem wp_append_src {P : Program} {w : World} {o : Oper} {a : Act} {K : Act → World → Prop} {Q : Exit → Act → World → Prop} (s x : Operand) (t : TypeId)
    (ho : o.op = .call { callee := .builtin .append, args := #[s, x], argTypes := #[t, t] })
    (base : Nat) (e : TypeId) (i : TypeInfo) (z : Value) (size bytes : Nat) (ht : P.underlying t = some (.slice e)) (hi : P.info? e = some i) (hz : i.zero = some z)
    (hsize : i.size = size) (hby : i.bytes = bytes) (hzs : z.cells.size = size) (hsz : 0 < size)
    (v : Value) (n : Nat) (xs : List Value) (hs : a.eval s = v) (hown : w.ownsRow base e size v n xs)
    (oa : Option Addr) (m c : Nat) (news : List Value) (hx : a.eval x = .slice oa m c) (hl : news.length = m * size) (hsrc : m = 0 ∨ ∃ ad, oa = some ad ∧ ∀ j u, news[j]? = some u → w.cell? (ad.add j) = some u) (h1 : ∀ u ∈ news, u.oneCell' = true)
    (h63 : n + m ≤ maxLen) (hbytes : (n + m) * bytes ≤ 140737488355328) (hbase : base ≤ w.heap.size)
    (h : ∀ v' w', w'.ownsRow base e size v' (n + m) (xs ++ news) → w.grownBy w' v.ownBlock → K (a.put o.dst v') w') : o.wp P a w K Q := by
  cases oa with
  | none =>
    rcases hsrc with h0 | ⟨ad, h0, _⟩
    · subst h0
      have hn : news = [] := List.eq_nil_of_length_eq_zero (by omega)
      subst hn
      have hr := run_append_nilsrc (P := P) (w := w) base t o.type e i size ht hi v n xs hown c
      unfold Oper.wp execOp
      simp only [ho, resolve, invoke, builtin, Sem.run_bind, Sem.run_pure, Result.andThen_ok, List.map_toArray, List.map_cons, List.map_nil, hs, hx, hr]
      exact h v w (by simpa using hown) ⟨rfl, rfl, rfl, Nat.le_refl _, fun _ _ _ => rfl⟩
    · cases h0
  | some ad =>
    refine wp_append_own w s x t ho base e i z size bytes ht hi hz hsize hby hzs hsz v n xs hs hown ad m c news hx hl ?_ h1 h63 hbytes hbase (fun v' w' h2 h3 _ => h v' w' h2 h3)
    rcases hsrc with h0 | ⟨ad', h0, hc⟩
    · subst h0
      have hn : news = [] := List.eq_nil_of_length_eq_zero (by omega)
      subst hn
      intro j u hu
      simp at hu
    · injection h0 with h0
      subst h0
      exact hc
theorem step_append_src {P : Program} {w : World} {ops : Array Oper} {o : Oper} {a : Act} {K : Act → World → Prop} {Q : Exit → Act → World → Prop} {E : Prop} (hgd : o.guard = none) (s x : Operand) (t : TypeId)
    (ho : o.op = .call { callee := .builtin .append, args := #[s, x], argTypes := #[t, t] })
    (base : Nat) (e : TypeId) (i : TypeInfo) (z : Value) (size bytes : Nat) (ht : P.underlying t = some (.slice e)) (hi : P.info? e = some i) (hz : i.zero = some z)
    (hsize : i.size = size) (hby : i.bytes = bytes) (hzs : z.cells.size = size) (hsz : 0 < size)
    (v : Value) (n : Nat) (xs : List Value) (hs : a.eval s = v) (hown : w.ownsRow base e size v n xs)
    (oa : Option Addr) (m c : Nat) (news : List Value) (hx : a.eval x = .slice oa m c) (hl : news.length = m * size) (hsrc : m = 0 ∨ ∃ ad, oa = some ad ∧ ∀ j u, news[j]? = some u → w.cell? (ad.add j) = some u) (h1 : ∀ u ∈ news, u.oneCell' = true)
    (h63 : n + m ≤ maxLen) (hbytes : (n + m) * bytes ≤ 140737488355328) (hbase : base ≤ w.heap.size)
    (h : ∀ v' w', w'.ownsRow base e size v' (n + m) (xs ++ news) → w.grownBy w' v.ownBlock → K (a.put o.dst v') w') : if Region.wanted o (yielded ops a.tmps) = true then Oper.wp P o a w K Q else E := by
  have hw : Region.wanted o (yielded ops a.tmps) = true := by simp [Region.wanted, hgd]
  rw [if_pos hw]
  exact wp_append_src s x t ho base e i z size bytes ht hi hz hsize hby hzs hsz v n xs hs hown oa m c news hx hl hsrc h1 h63 hbytes hbase h
/-- spans as cells -/
def sC (f : Nat → SV) (n : Nat) : List Value := (List.range (n * 2)).map fun j => if j % 2 = 0 then .int .i64 (f (j / 2)).lo else .int .i64 (f (j / 2)).hi
theorem sC_len {f : Nat → SV} {n : Nat} : (sC f n).length = n * 2 := by simp [sC]
theorem sC_get {f : Nat → SV} {n j : Nat} (h : j < n * 2) : (sC f n)[j]? = some (if j % 2 = 0 then .int .i64 (f (j / 2)).lo else .int .i64 (f (j / 2)).hi) := by simp [sC, h]
theorem sC_one {f : Nat → SV} {n : Nat} : ∀ u ∈ sC f n, u.oneCell' = true := by
  intro u hu
  simp only [sC, List.mem_map] at hu
  obtain ⟨i, _, rfl⟩ := hu
  split <;> rfl
theorem sC_cat {f g : Nat → SV} {a b : Nat} : sC f a ++ sC g b = sC (fun i => if i < a then f i else g (i - a)) (a + b) := by
  apply List.ext_getElem?
  intro j
  by_cases h : j < a * 2
  · rw [List.getElem?_append_left (by rw [sC_len]; exact h), sC_get h, sC_get (by omega), if_pos (by omega : j / 2 < a)]
  · rw [List.getElem?_append_right (by rw [sC_len]; omega), sC_len]
    by_cases h2 : j < (a + b) * 2
    · rw [sC_get (by omega), sC_get h2, if_neg (by omega : ¬ j / 2 < a), show (j - a * 2) % 2 = j % 2 by omega, show (j - a * 2) / 2 = j / 2 - a by omega]
    · rw [List.getElem?_eq_none_iff.2 (by rw [sC_len]; omega), List.getElem?_eq_none_iff.2 (by rw [sC_len]; omega)]
theorem sC_single {s : SV} : sC (fun _ => s) 1 = [.int .i64 s.lo, .int .i64 s.hi] := rfl
theorem sC_congr {f g : Nat → SV} {n : Nat} (h : ∀ i, i < n → f i = g i) : sC f n = sC g n := by
  apply List.ext_getElem?
  intro j
  by_cases hj : j < n * 2
  · rw [sC_get hj, sC_get hj, h (j / 2) (by omega)]
  · rw [List.getElem?_eq_none_iff.2 (by rw [sC_len]; omega), List.getElem?_eq_none_iff.2 (by rw [sC_len]; omega)]
theorem spans_cells {w : World} {b off n : Nat} {f : Nat → SV} (h : ∀ i, i < n → w.cell? ⟨b, off + i * 2, none⟩ = some (.int .i64 (f i).lo) ∧ w.cell? ⟨b, off + i * 2 + 1, none⟩ = some (.int .i64 (f i).hi)) : ∀ j u, (sC f n)[j]? = some u → w.cell? ((⟨b, off, none⟩ : Addr).add j) = some u := by
  intro j u hu
  have hj : j < n * 2 := by have := (List.getElem?_eq_some_iff.1 hu).1; rwa [sC_len] at this
  rw [sC_get hj] at hu
  injection hu with hu
  rw [addr_add, ← hu]
  obtain ⟨h0, h1⟩ := h (j / 2) (by omega)
  by_cases e : j % 2 = 0
  · rw [if_pos e, show off + j = off + j / 2 * 2 by omega]; exact h0
  · rw [if_neg e, show off + j = off + j / 2 * 2 + 1 by omega]; exact h1
/-- spans in a new row -/
def NewSpans (w w' : World) (a : Option Addr) (n : Nat) (f : Nat → SV) : Prop := ∃ b, a = some ⟨b, 0, none⟩ ∧ w.heap.size ≤ b ∧ b < w'.heap.size ∧ ∀ i, i < n → w'.cell? ⟨b, i * 2, none⟩ = some (.int .i64 (f i).lo) ∧ w'.cell? ⟨b, i * 2 + 1, none⟩ = some (.int .i64 (f i).hi)
theorem NewSpans.spans {w w' : World} {a : Option Addr} {n : Nat} {f : Nat → SV} (h : NewSpans w w' a n f) (hn : n ≤ maxLen) : Spans w'.heap.size w' a n f := by
  obtain ⟨b, ha, h1, h2, h3⟩ := h
  exact ⟨hn, .inr ⟨b, 0, ha, h2, fun i hi => by rw [Nat.zero_add]; exact h3 i hi⟩⟩
theorem own_spans {w w' : World} {base : Nat} {a : Option Addr} {n c : Nat} {f : Nat → SV} (h : w'.ownsRow base 28 2 (.slice a n c) n (sC f n)) (hb : w.heap.size ≤ base) (hn : 0 < n) : NewSpans w w' a n f := by
  obtain ⟨g, rfl, h1, h2⟩ := own_at h hn
  refine ⟨g, rfl, by omega, h2, fun i hi => ⟨?_, ?_⟩⟩
  · rw [h.cellAt (i * 2) (by omega), sC_get (by omega), if_pos (by omega), show i * 2 / 2 = i by omega]
  · rw [h.cellAt (i * 2 + 1) (by omega), sC_get (by omega), if_neg (by omega), show (i * 2 + 1) / 2 = i by omega]
end Go.Proofs.YtkdopjkdokgipaaGreatDoor
namespace Go.Proofs.YtkdopjkdokgipaaGreatDoor
set_option linter.unusedVariables false
set_option linter.unusedSimpArgs false
/-- how often a cell counts if beams are taken so many times each -/
def formN (bs : Nat → BM) (ts : Nat → Int) (m c : Nat) : Int := sumN (fun i => ts i * (bs i).w c) m
def mostN (bs : Nat → BM) (ts : Nat → Int) (m : Nat) : Int := sumN (fun i => if 0 < ts i then ts i * (bs i).hi else ts i * (bs i).lo) m
def leastN (bs : Nat → BM) (ts : Nat → Int) (m : Nat) (box : Nat → SV) (n : Nat) : Int := sumN (fun c => min (formN bs ts m c * (box c).lo) (formN bs ts m c * (box c).hi)) n
def refutesB (n m : Nat) (bs : Nat → BM) (box : Nat → SV) (ts : Nat → Int) : Bool := decide (mostN bs ts m < leastN bs ts m box n)
def inBox (n : Nat) (box : Nat → SV) (f : Nat → Int) : Prop := ∀ c, c < n → (box c).lo ≤ f c ∧ f c ≤ (box c).hi
theorem form_sum {n m : Nat} {bs : Nat → BM} {ts f : Nat → Int} : sumN (fun c => formN bs ts m c * f c) n = sumN (fun i => ts i * sumN (fun c => (bs i).w c * f c) n) m := by
  have h : ∀ c, formN bs ts m c * f c = sumN (fun i => ts i * ((bs i).w c * f c)) m := fun c => by
    unfold formN
    rw [Int.mul_comm, ← sumN_mul]
    exact sumN_congr m (fun i _ => by rw [Int.mul_comm, Int.mul_assoc])
  rw [sumN_congr n (fun c _ => h c), sumN_swap (f := fun c i => ts i * ((bs i).w c * f c))]
  exact sumN_congr m (fun i _ => sumN_mul n)
theorem min_le_mul {x lo hi y : Int} (h1 : lo ≤ y) (h2 : y ≤ hi) : min (x * lo) (x * hi) ≤ x * y := by
  by_cases h : 0 ≤ x
  · have := Int.mul_le_mul_of_nonneg_left h1 h
    have := Int.min_le_left (x * lo) (x * hi)
    omega
  · have := Int.mul_le_mul_of_nonpos_left (a := x) (by omega) h2
    have := Int.min_le_right (x * lo) (x * hi)
    omega
theorem mul_le_side {t s lo hi : Int} (h1 : lo ≤ s) (h2 : s ≤ hi) : t * s ≤ if 0 < t then t * hi else t * lo := by
  split
  · exact Int.mul_le_mul_of_nonneg_left h2 (by omega)
  · exact Int.mul_le_mul_of_nonpos_left (by omega) h1
/-- a box that is refuted holds no field that agrees -/
theorem refutes_sound {n m : Nat} {ss : Nat → SV} {bs : Nat → BM} (hS : Shape n ss m bs) {box : Nat → SV} {ts f : Nat → Int} (h : refutesB n m bs box ts = true) (hf : inBox n box f) : agreesB m bs f = false := by
  cases ha : agreesB m bs f
  · rfl
  · exfalso
    have h1 := of_decide_eq_true h
    have h2 : leastN bs ts m box n ≤ sumN (fun c => formN bs ts m c * f c) n := sumN_le n (fun c hc => min_le_mul (hf c hc).1 (hf c hc).2)
    have h3 : sumN (fun i => ts i * sumN (fun c => (bs i).w c * f c) n) m ≤ mostN bs ts m := sumN_le m (fun i hi => by
      have := allUpto_iff.1 ha i hi
      rw [inB_iff, ofN_dense (hS.set i hi)] at this
      exact mul_le_side this.1 this.2)
    rw [form_sum] at h2
    omega
/-! ### one beam, once -/
def singleT (i : Nat) (t : Int) (k : Nat) : Int := if k = i then t else 0
theorem sum_single {f : Nat → Int} {i m : Nat} {t : Int} (hi : i < m) : sumN (fun k => singleT i t k * f k) m = t * f i := by
  have := sumN_point (f := fun _ => 0) (c := i) (x := t * f i) m hi
  rw [sumN_zero m (fun _ _ => rfl)] at this
  rw [← Int.zero_add (t * f i), ← this]
  refine sumN_congr m (fun k _ => ?_)
  unfold singleT
  by_cases e : k = i
  · rw [if_pos e, if_pos e, e]; omega
  · rw [if_neg e, if_neg e]; simp
theorem form_single {bs : Nat → BM} {i m c : Nat} {t : Int} (hi : i < m) : formN bs (singleT i t) m c = t * (bs i).w c := sum_single (f := fun k => (bs k).w c) hi
theorem most_single {bs : Nat → BM} {i m : Nat} {t : Int} (hi : i < m) (ht : t = 1 ∨ t = -1) : mostN bs (singleT i t) m = if 0 < t then (bs i).hi else - (bs i).lo := by
  unfold mostN
  have e : sumN (fun k => if 0 < singleT i t k then singleT i t k * (bs k).hi else singleT i t k * (bs k).lo) m = sumN (fun k => singleT i t k * (if 0 < t then (bs k).hi else (bs k).lo)) m := by
    refine sumN_congr m (fun k _ => ?_)
    unfold singleT
    by_cases e : k = i
    · rw [if_pos e]; split <;> rfl
    · rw [if_neg e]; simp
  rw [e, sum_single hi]
  rcases ht with rfl | rfl <;> simp
/-- a field that does not agree is refuted by one beam, if its box holds nothing else -/
theorem point_refuted {n m : Nat} {ss : Nat → SV} {bs : Nat → BM} (hS : Shape n ss m bs) {box : Nat → SV} (hp : ∀ c, c < n → (box c).hi = (box c).lo) (ha : agreesB m bs (fun c => (box c).lo) = false) : ∃ i t, i < m ∧ (t = 1 ∨ t = -1) ∧ refutesB n m bs box (singleT i t) = true := by
  have : ∃ i, i < m ∧ ¬ ((bs i).lo ≤ ofN (bs i) (fun c => (box c).lo) ∧ ofN (bs i) (fun c => (box c).lo) ≤ (bs i).hi) := by
    false_or_by_contra
    rename_i hn
    have : agreesB m bs (fun c => (box c).lo) = true := by
      simp only [agreesB, allUpto_iff, inB_iff]
      intro i hi
      false_or_by_contra
      rename_i h2
      exact hn ⟨i, hi, h2⟩
    rw [ha] at this; cases this
  obtain ⟨i, hi, hbad⟩ := this
  rw [ofN_dense (hS.set i hi)] at hbad
  have hl : ∀ t, leastN bs (singleT i t) m box n = t * sumN (fun c => (bs i).w c * (box c).lo) n := fun t => by
    unfold leastN
    rw [← sumN_mul]
    refine sumN_congr n (fun c hc => ?_)
    rw [hp c hc, form_single hi, Int.mul_assoc]
    exact Int.min_self _
  by_cases h : sumN (fun c => (bs i).w c * (box c).lo) n < (bs i).lo
  · refine ⟨i, -1, hi, .inr rfl, ?_⟩
    unfold refutesB
    rw [hl, most_single hi (.inr rfl), if_neg (by omega)]
    exact decide_eq_true (by omega)
  · refine ⟨i, 1, hi, .inl rfl, ?_⟩
    unfold refutesB
    rw [hl, most_single hi (.inl rfl), if_pos (by omega)]
    exact decide_eq_true (by omega)
/-- one beam, once or minus once, in order -/
def cand : Nat → List (Nat × Int)
  | 0 => []
  | m + 1 => cand m ++ [(m, 1), (m, -1)]
theorem cand_mem : ∀ m i t, (i, t) ∈ cand m ↔ i < m ∧ (t = 1 ∨ t = -1)
  | 0, i, t => by simp [cand]
  | m + 1, i, t => by
    rw [cand, List.mem_append, cand_mem m i t]
    simp only [List.mem_cons, Prod.mk.injEq, List.not_mem_nil, or_false]
    constructor
    · rintro (⟨h1, h2⟩ | ⟨h1, h2⟩ | ⟨h1, h2⟩)
      · exact ⟨by omega, h2⟩
      · exact ⟨by omega, .inl h2⟩
      · exact ⟨by omega, .inr h2⟩
    · rintro ⟨h1, h2⟩
      by_cases e : i = m
      · rcases h2 with h2 | h2
        · exact .inr (.inl ⟨e, h2⟩)
        · exact .inr (.inr ⟨e, h2⟩)
      · exact .inl ⟨by omega, h2⟩
def pick (n m : Nat) (bs : Nat → BM) (box : Nat → SV) (l : List (Nat × Int)) : Option (Nat × Int) := l.find? (fun p => refutesB n m bs box (singleT p.1 p.2))
theorem pick_some {n m : Nat} {bs : Nat → BM} {box : Nat → SV} {l : List (Nat × Int)} {p : Nat × Int} (h : pick n m bs box l = some p) : refutesB n m bs box (singleT p.1 p.2) = true ∧ p ∈ l := by
  unfold pick at h
  exact ⟨List.find?_some (p := fun q : Nat × Int => refutesB n m bs box (singleT q.1 q.2)) h, List.mem_of_find?_eq_some h⟩
/-- the first cell that can be divided -/
def wideAt (box : Nat → SV) : Nat → Option Nat
  | 0 => none
  | n + 1 => match wideAt box n with
    | some c => some c
    | none => if (box n).lo < (box n).hi then some n else none
theorem wideAt_some {box : Nat → SV} : ∀ {n c : Nat}, wideAt box n = some c → c < n ∧ (box c).lo < (box c).hi
  | 0, c, h => by simp [wideAt] at h
  | n + 1, c, h => by
    rw [wideAt] at h
    cases e : wideAt box n with
    | some d =>
      rw [e] at h
      simp at h; subst h
      have := wideAt_some e
      omega
    | none =>
      rw [e] at h
      simp at h
      obtain ⟨h1, rfl⟩ := h
      exact ⟨by omega, h1⟩
theorem wideAt_none {box : Nat → SV} : ∀ {n : Nat}, wideAt box n = none ↔ ∀ c, c < n → ¬ (box c).lo < (box c).hi
  | 0 => by simp [wideAt]
  | n + 1 => by
    rw [wideAt]
    cases e : wideAt box n with
    | some d =>
      have := wideAt_some e
      simp
      exact ⟨d, by omega, this.2⟩
    | none =>
      have ih := wideAt_none.1 e
      simp
      constructor
      · intro h c hc
        by_cases e2 : c = n
        · subst e2; exact h
        · have := ih c (by omega); omega
      · intro h; exact h n (by omega)
def setBox (box : Nat → SV) (c : Nat) (s : SV) (i : Nat) : SV := if i = c then s else box i
/-- a node of a proof -/
structure NV where
  cell : Int
  at_ : Int
  right : Int
  ts : List Int
def listT (m : Nat) (ts : Nat → Int) : List Int := (List.range m).map ts
/-- the proof by halves of a box, from an index on -/
def prf (n m : Nat) (bs : Nat → BM) : Nat → (Nat → SV) → Nat → List NV
  | 0, _, _ => []
  | k + 1, box, off => match pick n m bs box (cand m) with
    | some p => [⟨-1, 0, 0, listT m (singleT p.1 p.2)⟩]
    | none => match wideAt box n with
      | none => []
      | some c => ⟨c, ((box c).lo + (box c).hi) / 2, (off + 1 + (prf n m bs k (setBox box c ⟨(box c).lo, ((box c).lo + (box c).hi) / 2⟩) (off + 1)).length : Nat), []⟩ ::
          (prf n m bs k (setBox box c ⟨(box c).lo, ((box c).lo + (box c).hi) / 2⟩) (off + 1) ++
           prf n m bs k (setBox box c ⟨((box c).lo + (box c).hi) / 2 + 1, (box c).hi⟩) (off + 1 + (prf n m bs k (setBox box c ⟨(box c).lo, ((box c).lo + (box c).hi) / 2⟩) (off + 1)).length))
def sizeN (box : Nat → SV) (n : Nat) : Int := sumN (fun c => (box c).hi - (box c).lo) n
theorem size_set {box : Nat → SV} {c n : Nat} {s : SV} (hc : c < n) : sizeN (setBox box c s) n = sizeN box n + ((s.hi - s.lo) - ((box c).hi - (box c).lo)) := by
  unfold sizeN
  rw [← sumN_point (c := c) n hc]
  refine sumN_congr n (fun i _ => ?_)
  unfold setBox
  by_cases e : i = c
  · rw [if_pos e, if_pos e, e]; omega
  · rw [if_neg e, if_neg e]
theorem size_pos {box : Nat → SV} {n : Nat} (h : ∀ c, c < n → (box c).lo ≤ (box c).hi) : 0 ≤ sizeN box n := by
  have : sumN (fun _ => 0) n ≤ sizeN box n := sumN_le n (fun c hc => by have := h c hc; omega)
  rwa [sumN_zero n (fun _ _ => rfl)] at this
/-- no field of a box agrees -/
def voidB (n m : Nat) (bs : Nat → BM) (box : Nat → SV) : Prop := ∀ f, inBox n box f → agreesB m bs f = false
/-- where a box stands in the proof by halves -/
structure Halved (n m : Nat) (bs : Nat → BM) (k : Nat) (box : Nat → SV) : Prop where
  le : ∀ c, c < n → (box c).lo ≤ (box c).hi
  void : voidB n m bs box
  fuel : sizeN box n < (k : Int)
theorem mid_lt {a b : Int} (h : a < b) : a ≤ (a + b) / 2 ∧ (a + b) / 2 < b := by omega
theorem inBox_left {n : Nat} {box : Nat → SV} {c : Nat} {at_ : Int} {f : Nat → Int} (hm : at_ ≤ (box c).hi) (h : inBox n (setBox box c ⟨(box c).lo, at_⟩) f) : inBox n box f := by
  intro i hi
  have := h i hi
  unfold setBox at this
  by_cases e : i = c
  · rw [if_pos e] at this; subst e; dsimp only at this; omega
  · rw [if_neg e] at this; exact this
theorem inBox_right {n : Nat} {box : Nat → SV} {c : Nat} {at_ : Int} {f : Nat → Int} (hm : (box c).lo ≤ at_ + 1) (h : inBox n (setBox box c ⟨at_ + 1, (box c).hi⟩) f) : inBox n box f := by
  intro i hi
  have := h i hi
  unfold setBox at this
  by_cases e : i = c
  · rw [if_pos e] at this; subst e; dsimp only at this; omega
  · rw [if_neg e] at this; exact this
theorem inBox_part {n : Nat} {box : Nat → SV} {c : Nat} {at_ : Int} {f : Nat → Int} (h : inBox n box f) : inBox n (setBox box c ⟨(box c).lo, at_⟩) f ∨ inBox n (setBox box c ⟨at_ + 1, (box c).hi⟩) f := by
  by_cases h1 : f c ≤ at_
  · left
    intro i hi
    unfold setBox
    by_cases e : i = c
    · rw [if_pos e]; subst e; have := h i hi; dsimp only; omega
    · rw [if_neg e]; exact h i hi
  · right
    intro i hi
    unfold setBox
    by_cases e : i = c
    · rw [if_pos e]; subst e; have := h i hi; dsimp only; omega
    · rw [if_neg e]; exact h i hi
theorem Halved.left {n m : Nat} {bs : Nat → BM} {k : Nat} {box : Nat → SV} (h : Halved n m bs (k + 1) box) {c : Nat} (hc : c < n) (hl : (box c).lo < (box c).hi) : Halved n m bs k (setBox box c ⟨(box c).lo, ((box c).lo + (box c).hi) / 2⟩) := by
  have hm := mid_lt hl
  refine ⟨fun i hi => ?_, fun f hf => h.void f (inBox_left (by omega) hf), ?_⟩
  · unfold setBox
    by_cases e : i = c
    · rw [if_pos e]; exact hm.1
    · rw [if_neg e]; exact h.le i hi
  · have := h.fuel
    rw [size_set hc]
    dsimp only
    omega
theorem Halved.right {n m : Nat} {bs : Nat → BM} {k : Nat} {box : Nat → SV} (h : Halved n m bs (k + 1) box) {c : Nat} (hc : c < n) (hl : (box c).lo < (box c).hi) : Halved n m bs k (setBox box c ⟨((box c).lo + (box c).hi) / 2 + 1, (box c).hi⟩) := by
  have hm := mid_lt hl
  refine ⟨fun i hi => ?_, fun f hf => h.void f (inBox_right (by omega) hf), ?_⟩
  · unfold setBox
    by_cases e : i = c
    · rw [if_pos e]; dsimp only; omega
    · rw [if_neg e]; exact h.le i hi
  · have := h.fuel
    rw [size_set hc]
    dsimp only
    omega
theorem Halved.fuel1 {n m : Nat} {bs : Nat → BM} {k : Nat} {box : Nat → SV} (h : Halved n m bs k box) : ∃ j, k = j + 1 := by
  have := size_pos h.le
  have := h.fuel
  exact ⟨k - 1, by omega⟩
/-- where nothing refutes the box at once, some cell can be divided -/
theorem Halved.wide {n m : Nat} {ss : Nat → SV} {bs : Nat → BM} (hS : Shape n ss m bs) {k : Nat} {box : Nat → SV} (h : Halved n m bs k box) (hp : pick n m bs box (cand m) = none) : ∃ c, wideAt box n = some c ∧ c < n ∧ (box c).lo < (box c).hi := by
  cases e : wideAt box n with
  | some c => exact ⟨c, rfl, wideAt_some e⟩
  | none =>
    exfalso
    have hpt : ∀ c, c < n → (box c).hi = (box c).lo := fun c hc => by
      have := wideAt_none.1 e c hc
      have := h.le c hc
      omega
    obtain ⟨i, t, hi, ht, hr⟩ := point_refuted hS hpt (h.void _ (fun c hc => by have := hpt c hc; omega))
    have := List.find?_eq_none.1 hp (i, t) ((cand_mem m i t).2 ⟨hi, ht⟩)
    exact this hr
theorem prf_pos {n m : Nat} {ss : Nat → SV} {bs : Nat → BM} (hS : Shape n ss m bs) {k : Nat} {box : Nat → SV} (h : Halved n m bs k box) (off : Nat) : 1 ≤ (prf n m bs k box off).length := by
  obtain ⟨j, rfl⟩ := h.fuel1
  rw [prf]
  cases hp : pick n m bs box (cand m) with
  | some p => simp
  | none =>
    obtain ⟨c, hc, _⟩ := h.wide hS hp
    rw [hc]; simp
/-! ### which proofs hold -/
/-- a node as it lies in memory -/
structure NM where
  cell : Int
  at_ : Int
  right : Int
  ta : Option Addr
  tn : Nat
  tc : Nat
  ts : Nat → Int
def leafB (n m : Nat) (bs : Nat → BM) (box : Nat → SV) (x : NM) : Bool := ((x.at_ == 0) && ((x.right == 0) && (x.tn == m))) && (allUpto x.tn (fun i => inB (x.ts i) (-100) 100) && refutesB n m bs box x.ts)
def cutB (n : Nat) (box : Nat → SV) (x : NM) : Bool := inB x.cell 0 ((n : Int) - 1) && ((x.tn == 0) && (decide ((box x.cell.toNat).lo ≤ x.at_) && decide (x.at_ < (box x.cell.toNat).hi)))
/-- where the nodes behind those of a box begin; 0, if they do not hold -/
def holdsF (n m : Nat) (bs : Nat → BM) (len : Nat) (ns : Nat → NM) : Nat → (Nat → SV) → Nat → Nat
  | 0, _, _ => 0
  | k + 1, box, i => if len ≤ i then 0 else
    if (ns i).cell = -1 then (if leafB n m bs box (ns i) = true then i + 1 else 0)
    else if cutB n box (ns i) = true then
      (if 0 < holdsF n m bs len ns k (setBox box (ns i).cell.toNat ⟨(box (ns i).cell.toNat).lo, (ns i).at_⟩) (i + 1) ∧ (holdsF n m bs len ns k (setBox box (ns i).cell.toNat ⟨(box (ns i).cell.toNat).lo, (ns i).at_⟩) (i + 1) : Int) = (ns i).right
       then holdsF n m bs len ns k (setBox box (ns i).cell.toNat ⟨(ns i).at_ + 1, (box (ns i).cell.toNat).hi⟩) (holdsF n m bs len ns k (setBox box (ns i).cell.toNat ⟨(box (ns i).cell.toNat).lo, (ns i).at_⟩) (i + 1)) else 0)
    else 0
theorem holdsF_le {n m : Nat} {bs : Nat → BM} {len : Nat} {ns : Nat → NM} : ∀ k box i, holdsF n m bs len ns k box i = 0 ∨ (i < holdsF n m bs len ns k box i ∧ holdsF n m bs len ns k box i ≤ len)
  | 0, _, _ => .inl rfl
  | k + 1, box, i => by
    rw [holdsF]
    split
    · exact .inl rfl
    · split
      · split
        · exact .inr ⟨by omega, by omega⟩
        · exact .inl rfl
      · split
        · split
          · rename_i h
            rcases holdsF_le (n := n) (m := m) (bs := bs) (len := len) (ns := ns) k (setBox box (ns i).cell.toNat ⟨(box (ns i).cell.toNat).lo, (ns i).at_⟩) (i + 1) with h1 | h1
            · omega
            · rcases holdsF_le (n := n) (m := m) (bs := bs) (len := len) (ns := ns) k (setBox box (ns i).cell.toNat ⟨(ns i).at_ + 1, (box (ns i).cell.toNat).hi⟩) (holdsF n m bs len ns k (setBox box (ns i).cell.toNat ⟨(box (ns i).cell.toNat).lo, (ns i).at_⟩) (i + 1)) with h2 | h2
              · exact .inl h2
              · exact .inr ⟨Nat.lt_trans (Nat.lt_trans (Nat.lt_succ_self i) h1.1) h2.1, h2.2⟩
          · exact .inl rfl
        · exact .inl rfl
/-- where a proof holds for a box, no field of it agrees -/
theorem holds_sound {n m : Nat} {ss : Nat → SV} {bs : Nat → BM} (hS : Shape n ss m bs) {len : Nat} {ns : Nat → NM} : ∀ k box i, holdsF n m bs len ns k box i ≠ 0 → voidB n m bs box
  | 0, _, _, h => absurd rfl h
  | k + 1, box, i, h => by
    rw [holdsF] at h
    split at h
    · exact absurd rfl h
    · split at h
      · split at h
        · rename_i hl
          simp only [leafB, Bool.and_eq_true] at hl
          exact fun f hf => refutes_sound hS hl.2.2 hf
        · exact absurd rfl h
      · split at h
        · rename_i hc
          split at h
          · rename_i hr
            have h1 := holds_sound hS k _ _ (show holdsF n m bs len ns k (setBox box (ns i).cell.toNat ⟨(box (ns i).cell.toNat).lo, (ns i).at_⟩) (i + 1) ≠ 0 by omega)
            have h2 := holds_sound hS k _ _ h
            exact fun f hf => (inBox_part hf).elim (h1 f) (h2 f)
          · exact absurd rfl h
        · exact absurd rfl h
/-- a node in memory is a node of a proof -/
def NM.is (x : NM) (v : NV) : Prop := x.cell = v.cell ∧ x.at_ = v.at_ ∧ x.right = v.right ∧ x.tn = v.ts.length ∧ ∀ i, i < x.tn → x.ts i = v.ts.getD i 0
theorem form_congr {bs : Nat → BM} {ts us : Nat → Int} {m : Nat} (h : ∀ i, i < m → ts i = us i) (c : Nat) : formN bs ts m c = formN bs us m c := sumN_congr m (fun i hi => by rw [h i hi])
theorem refutes_congr {n m : Nat} {bs : Nat → BM} {box : Nat → SV} {ts us : Nat → Int} (h : ∀ i, i < m → ts i = us i) : refutesB n m bs box ts = refutesB n m bs box us := by
  unfold refutesB
  rw [show mostN bs ts m = mostN bs us m from sumN_congr m (fun i hi => by rw [h i hi]), show leastN bs ts m box n = leastN bs us m box n from sumN_congr n (fun c _ => by rw [form_congr h c])]
theorem listT_len {m : Nat} {ts : Nat → Int} : (listT m ts).length = m := by simp [listT]
theorem listT_get {m : Nat} {ts : Nat → Int} {i : Nat} (h : i < m) : (listT m ts).getD i 0 = ts i := by simp [listT, List.getD_eq_getElem?_getD, h]
/-- the proof by halves holds, wherever it stands -/
theorem prf_holds {n m : Nat} {ss : Nat → SV} {bs : Nat → BM} (hS : Shape n ss m bs) {len : Nat} {ns : Nat → NM} : ∀ k box off, Halved n m bs k box → off + (prf n m bs k box off).length ≤ len → (∀ j, j < (prf n m bs k box off).length → ∃ v, (prf n m bs k box off)[j]? = some v ∧ (ns (off + j)).is v) →
    holdsF n m bs len ns k box off = off + (prf n m bs k box off).length
  | 0, box, off, h, _, _ => by obtain ⟨j, hj⟩ := h.fuel1; omega
  | k + 1, box, off, h, hl, hn => by
    have hpos := prf_pos hS h off
    obtain ⟨v, hv, hi⟩ := hn 0 (by omega)
    rw [Nat.add_zero] at hi
    rw [holdsF, if_neg (by omega)]
    rw [prf] at hl hn hv ⊢
    cases hp : pick n m bs box (cand m) with
    | some p =>
      rw [hp] at hv
      simp at hv
      subst hv
      obtain ⟨i1, i2, i3, i4, i5⟩ := hi
      dsimp only at i1 i2 i3 i4 i5
      rw [listT_len] at i4
      obtain ⟨hpm, hpl⟩ := pick_some hp
      have hpc := (cand_mem m p.1 p.2).1 hpl
      rw [if_pos i1, if_pos]
      · simp
      · simp only [leafB, Bool.and_eq_true, beq_iff_eq, allUpto_iff, inB_iff]
        refine ⟨⟨i2, i3, i4⟩, fun j hj => ?_, ?_⟩
        · rw [i5 j hj, listT_get (by omega)]
          unfold singleT
          rcases hpc.2 with e | e <;> rw [e] <;> split <;> omega
        · rw [refutes_congr (us := singleT p.1 p.2) (fun j hj => by rw [i5 j (by omega), listT_get hj])]
          exact hpm
    | none =>
      obtain ⟨c, hc, hcn, hcl⟩ := h.wide hS hp
      rw [hp] at hl hn hv
      simp only [hc] at hl hn hv ⊢
      simp at hv
      subst hv
      obtain ⟨i1, i2, i3, i4, i5⟩ := hi
      dsimp only at i1 i2 i3 i4 i5
      have hm := mid_lt hcl
      have hct : (ns off).cell.toNat = c := by omega
      rw [if_neg (by omega), if_pos]
      · rw [hct, i2]
        generalize hL : prf n m bs k (setBox box c ⟨(box c).lo, ((box c).lo + (box c).hi) / 2⟩) (off + 1) = L at *
        generalize hR : prf n m bs k (setBox box c ⟨((box c).lo + (box c).hi) / 2 + 1, (box c).hi⟩) (off + 1 + L.length) = R at *
        simp only [List.length_cons, List.length_append] at hl hn ⊢
        have e1 : holdsF n m bs len ns k (setBox box c ⟨(box c).lo, ((box c).lo + (box c).hi) / 2⟩) (off + 1) = off + 1 + L.length := by
          have := prf_holds hS (len := len) (ns := ns) k _ (off + 1) (h.left hcn hcl) (by rw [hL]; omega) (fun j hj => by
            rw [hL] at hj ⊢
            obtain ⟨v, h1, h2⟩ := hn (j + 1) (by omega)
            rw [List.getElem?_cons_succ, List.getElem?_append_left hj] at h1
            exact ⟨v, h1, by rw [show off + 1 + j = off + (j + 1) by omega]; exact h2⟩)
          rw [hL] at this
          exact this
        rw [e1, if_pos ⟨by omega, by omega⟩]
        have := prf_holds hS (len := len) (ns := ns) k _ (off + 1 + L.length) (h.right hcn hcl) (by rw [hR]; omega) (fun j hj => by
          rw [hR] at hj ⊢
          obtain ⟨v, h1, h2⟩ := hn (j + 1 + L.length) (by omega)
          rw [show j + 1 + L.length = (j + L.length) + 1 by omega, List.getElem?_cons_succ, List.getElem?_append_right (by omega)] at h1
          exact ⟨v, by rw [← h1]; congr 1; omega, by rw [show off + 1 + L.length + j = off + (j + 1 + L.length) by omega]; exact h2⟩)
        rw [hR] at this
        rw [this]
        omega
      · simp only [cutB, Bool.and_eq_true, inB_iff, beq_iff_eq, decide_eq_true_eq, hct]
        refine ⟨by omega, by simpa using i4, by omega, by omega⟩
end Go.Proofs.YtkdopjkdokgipaaGreatDoor
