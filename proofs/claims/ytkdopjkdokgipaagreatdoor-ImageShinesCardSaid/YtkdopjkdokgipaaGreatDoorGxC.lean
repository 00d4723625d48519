/- Texts put together: ShA, ShB, RkJ, RegFull, RkK, RkL, RkR, SeA. -/
import Derived.Test.YtkdopjkdokgipaaGreatDoorGxB
import Derived.Test.YtkdopjkdokgipaaGreatDoorGaA
import Derived.Test.YtkdopjkdokgipaaGreatDoorGcA
namespace Go.Proofs.YtkdopjkdokgipaaGreatDoor
open Go.RowKit Go.Shelf
set_option linter.unusedVariables false
set_option linter.unusedSimpArgs false
/-- what has become of W0's two rows c0, w0 -/
structure BP (base : Nat) (W0 W : World) (c0 w0 vc vw : Value) (kc kw : Nat) (cs ws : List Value) : Prop where
  eqs : W.os = W0.os ∧ W.tape = W0.tape ∧ W.output = W0.output
  size : W0.heap.size ≤ W.heap.size
  keep : ∀ b, b < W0.heap.size → c0.ownBlock ≠ some b → w0.ownBlock ≠ some b → W.heap[b]? = W0.heap[b]?
  cin : ∀ b, vc.ownBlock = some b → c0.ownBlock = some b ∨ W0.heap.size ≤ b
  win : ∀ b, vw.ownBlock = some b → w0.ownBlock = some b ∨ W0.heap.size ≤ b
  dis : ∀ b, vc.ownBlock = some b → vw.ownBlock ≠ some b
  le : base ≤ W0.heap.size
  cown : W.ownsRow base 3 1 vc kc cs
  wown : W.ownsRow base 3 1 vw kw ws
/-- a new row of one number that is no row's block -/
def PB (W : World) (vc vw : Value) (nb : Nat) (z : Int) : Prop := W.heap[nb]? = some (.cells #[.int .i64 z] 3) ∧ vc.ownBlock ≠ some nb ∧ vw.ownBlock ≠ some nb
section
variable {base : Nat} {W0 W W' : World} {c0 w0 vc vw : Value} {kc kw : Nat} {cs ws : List Value}
theorem BP.start (h1 : W.ownsRow base 3 1 vc kc cs) (h2 : W.ownsRow base 3 1 vw kw ws) (hd : ∀ b, vc.ownBlock = some b → vw.ownBlock ≠ some b) (hl : base ≤ W.heap.size) : BP base W W vc vw vc vw kc kw cs ws :=
  ⟨⟨rfl, rfl, rfl⟩, Nat.le_refl _, fun _ _ _ _ => rfl, fun _ h => .inl h, fun _ h => .inl h, hd, hl, h1, h2⟩
theorem BP.drew (h : BP base W0 W c0 w0 vc vw kc kw cs ws) : BP base W0 W.drew c0 w0 vc vw kc kw cs ws := ⟨h.eqs, h.size, h.keep, h.cin, h.win, h.dis, h.le, h.cown, h.wown⟩
theorem BP.alloc (h : BP base W0 W c0 w0 vc vw kc kw cs ws) (o : Obj) : BP base W0 (W.alloc o) c0 w0 vc vw kc kw cs ws :=
  ⟨h.eqs, by have := h.size; simp; omega, fun b hb h1 h2 => (Below.heap_alloc W o b (by have := h.size; omega)).trans (h.keep b hb h1 h2), h.cin, h.win, h.dis, h.le, h.cown.alloc o, h.wown.alloc o⟩
theorem BP.appC {g p kc' : Nat} {cs' : List Value} (h : BP base W0 W c0 w0 vc vw kc kw cs ws) (hg : W.grownBy W' vc.ownBlock) (ho : W'.ownsRow base 3 1 (.slice (some ⟨g, 0, none⟩) kc' p) kc' cs') (hat : vc.ownBlock = some g ∨ g = W.heap.size) :
    BP base W0 W' c0 w0 (.slice (some ⟨g, 0, none⟩) kc' p) vw kc' kw cs' ws := by
  have hs := h.size
  have hz := hg.size
  have hgb : ∀ b, (Value.slice (some ⟨g, 0, none⟩) kc' p).ownBlock = some b → g = b := fun b hb => by simpa [Value.ownBlock] using hb
  refine ⟨⟨hg.os.trans h.eqs.1, hg.tape.trans h.eqs.2.1, hg.output.trans h.eqs.2.2⟩, by omega, fun b hb h1 h2 => (hg.block b (by omega) (fun e => ?_)).trans (h.keep b hb h1 h2), fun b hb => ?_, h.win, fun b hb hw => ?_, h.le, ho, own_keep h.wown (fun b hb => hg.block b ((h.wown.lt b hb).2) (fun e => ?_))⟩
  · rcases h.cin b e.symm with h3 | h3
    · exact h1 h3
    · omega
  · have := hgb b hb
    subst this
    rcases hat with h3 | h3
    · exact h.cin _ h3
    · exact .inr (by omega)
  · have := hgb b hb
    subst this
    rcases hat with h3 | h3
    · exact h.dis _ h3 hw
    · have := (h.wown.lt _ hw).2; omega
  · exact h.dis b e.symm hb
theorem BP.appW {g p kw' : Nat} {ws' : List Value} (h : BP base W0 W c0 w0 vc vw kc kw cs ws) (hg : W.grownBy W' vw.ownBlock) (ho : W'.ownsRow base 3 1 (.slice (some ⟨g, 0, none⟩) kw' p) kw' ws') (hat : vw.ownBlock = some g ∨ g = W.heap.size) :
    BP base W0 W' c0 w0 vc (.slice (some ⟨g, 0, none⟩) kw' p) kc kw' cs ws' := by
  have hs := h.size
  have hz := hg.size
  have hgb : ∀ b, (Value.slice (some ⟨g, 0, none⟩) kw' p).ownBlock = some b → g = b := fun b hb => by simpa [Value.ownBlock] using hb
  refine ⟨⟨hg.os.trans h.eqs.1, hg.tape.trans h.eqs.2.1, hg.output.trans h.eqs.2.2⟩, by omega, fun b hb h1 h2 => (hg.block b (by omega) (fun e => ?_)).trans (h.keep b hb h1 h2), h.cin, fun b hb => ?_, fun b hb hw => ?_, h.le, own_keep h.cown (fun b hb => hg.block b ((h.cown.lt b hb).2) (fun e => ?_)), ho⟩
  · rcases h.win b e.symm with h3 | h3
    · exact h2 h3
    · omega
  · have := hgb b hb
    subst this
    rcases hat with h3 | h3
    · exact h.win _ h3
    · exact .inr (by omega)
  · have := hgb b hw
    subst this
    rcases hat with h3 | h3
    · exact h.dis _ hb h3
    · have := (h.cown.lt _ hb).2; omega
  · exact h.dis b hb e.symm
theorem PB.new (h : BP base W0 W c0 w0 vc vw kc kw cs ws) (z : Int) : PB (W.alloc (.cells #[.int .i64 z] 3)) vc vw W.heap.size z :=
  ⟨heap_alloc_new W _, fun e => by have := (h.cown.lt _ e).2; omega, fun e => by have := (h.wown.lt _ e).2; omega⟩
theorem PB.alloc {nb : Nat} {z : Int} (h : PB W vc vw nb z) (o : Obj) : PB (W.alloc o) vc vw nb z :=
  ⟨(Below.heap_alloc W o nb (bl h.1)).trans h.1, h.2.1, h.2.2⟩
theorem PB.appC {g p kc' nb : Nat} {z : Int} (h : PB W vc vw nb z) (hg : W.grownBy W' vc.ownBlock) (hat : vc.ownBlock = some g ∨ g = W.heap.size) : PB W' (.slice (some ⟨g, 0, none⟩) kc' p) vw nb z := by
  have hl := (bl h.1)
  refine ⟨(hg.block nb hl (Ne.symm h.2.1)).trans h.1, fun e => ?_, h.2.2⟩
  have : g = nb := by simpa [Value.ownBlock] using e
  subst this
  rcases hat with h3 | h3
  · exact h.2.1 h3
  · omega
theorem PB.appW {g p kw' nb : Nat} {z : Int} (h : PB W vc vw nb z) (hg : W.grownBy W' vw.ownBlock) (hat : vw.ownBlock = some g ∨ g = W.heap.size) : PB W' vc (.slice (some ⟨g, 0, none⟩) kw' p) nb z := by
  have hl := (bl h.1)
  refine ⟨(hg.block nb hl (Ne.symm h.2.2)).trans h.1, h.2.1, fun e => ?_⟩
  have : g = nb := by simpa [Value.ownBlock] using e
  subst this
  rcases hat with h3 | h3
  · exact h.2.2 h3
  · omega
end
/-! ### chords as pairs -/
abbrev CH := Int × Int
def chs (L : List PT) : List CH := L.map fun p => (p.cell, p.hi - p.lo)
def crC : List CH → List Value
  | [] => []
  | x :: t => [.int .i64 x.1, .int .i64 x.2] ++ crC t
theorem chC_crC : ∀ (L : List PT), chC L = crC (chs L)
  | [] => rfl
  | x :: t => by rw [chC, chC_crC t]; rfl
def ch0 : CH := (0, 0)
theorem crC_get : ∀ (l : List CH) (i : Nat), i < l.length → (crC l)[i * 2]? = some (.int .i64 (l.getD i ch0).1) ∧ (crC l)[i * 2 + 1]? = some (.int .i64 (l.getD i ch0).2)
  | [], i, h => by simp at h
  | h :: t, 0, _ => by simp [crC]
  | h :: t, i + 1, hi => by
    have e1 : (i + 1) * 2 = i * 2 + 2 := by omega
    have := crC_get t i (by simpa using hi)
    rw [crC, e1]
    simpa using this
/-- chords in memory -/
def CRow (W : World) (a : Option Addr) (S : List CH) : Prop := S.length = 0 ∨ ∃ b, a = some ⟨b, 0, none⟩ ∧ b < W.heap.size ∧ ∀ i, i < S.length → W.cell? ⟨b, i * 2, none⟩ = some (.int .i64 (S.getD i ch0).1) ∧ W.cell? ⟨b, i * 2 + 1, none⟩ = some (.int .i64 (S.getD i ch0).2)
theorem CRow.step {W W' : World} {a : Option Addr} {S : List CH} (h : CRow W a S) (hb : Below W.heap.size W W') : CRow W' a S := by
  rcases h with h | ⟨b, h1, h2, h3⟩
  · exact .inl h
  · exact .inr ⟨b, h1, Nat.lt_of_lt_of_le h2 hb.size, fun i hi => ⟨((bcell hb).1 _ _ h2).trans (h3 i hi).1, ((bcell hb).1 _ _ h2).trans (h3 i hi).2⟩⟩
def clC (S : List CH) : List Value := S.map fun x => .int .i64 x.1
def wtC (S : List CH) : List Value := S.map fun x => .int .i64 x.2
/-- the beam while it is put together: its box x -/
structure ShT (x : Nat) (lo hi : Int) (S : List CH) (Wb wr : World) : Prop where
  bel : Below x Wb wr
  row : ∃ ca cc wa wc, wr.heap[x]? = some (.cells #[.slice ca S.length cc, .slice wa S.length wc, .int .i64 lo, .int .i64 hi] 31) ∧ wr.ownsRow (x + 1) 3 1 (.slice ca S.length cc) S.length (clC S) ∧ wr.ownsRow (x + 1) 3 1 (.slice wa S.length wc) S.length (wtC S) ∧ ∀ b, (Value.slice ca S.length cc).ownBlock = some b → (Value.slice wa S.length wc).ownBlock ≠ some b
theorem ShT.next {x : Nat} {lo hi : Int} {S : List CH} {Wb W0 W : World} {y : CH} {c0 w0 : Value} {g1 p1 g2 p2 : Nat} (hx0 : Below x Wb W0) (hx1 : c0.ownBlock ≠ some x) (hx2 : w0.ownBlock ≠ some x) (hlow : ∀ b, c0.ownBlock = some b ∨ w0.ownBlock = some b → x < b)
    (hbox : W0.heap[x]? = some (.cells #[c0, w0, .int .i64 lo, .int .i64 hi] 31))
    (h : BP (x + 1) W0 W c0 w0 (.slice (some ⟨g1, 0, none⟩) (S.length + 1) p1) (.slice (some ⟨g2, 0, none⟩) (S.length + 1) p2) (S.length + 1) (S.length + 1) (clC S ++ [.int .i64 y.1]) (wtC S ++ [.int .i64 y.2])) :
    ShT x lo hi (S ++ [y]) Wb ((W.setCell ⟨x, 0, none⟩ (.slice (some ⟨g1, 0, none⟩) (S.length + 1) p1)).setCell ⟨x, 1, none⟩ (.slice (some ⟨g2, 0, none⟩) (S.length + 1) p2)) := by
  have hxl := (bl hbox)
  have k0 := (h.keep x hxl hx1 hx2).trans hbox
  have k1 := heap_setCell_same W x 0 _ _ (.slice (some ⟨g1, 0, none⟩) (S.length + 1) p1) k0
  have k2 := heap_setCell_same _ x 1 _ _ (.slice (some ⟨g2, 0, none⟩) (S.length + 1) p2) k1
  have far : ∀ b, b ≠ x → ((W.setCell ⟨x, 0, none⟩ (.slice (some ⟨g1, 0, none⟩) (S.length + 1) p1)).setCell ⟨x, 1, none⟩ (.slice (some ⟨g2, 0, none⟩) (S.length + 1) p2)).heap[b]? = W.heap[b]? := fun b hb =>
    (heap_setCell_other _ ⟨x, 1, none⟩ b _ hb).trans (heap_setCell_other W ⟨x, 0, none⟩ b _ hb)
  have hlen : (S ++ [y]).length = S.length + 1 := by simp
  have hc : clC (S ++ [y]) = clC S ++ [.int .i64 y.1] := by simp [clC]
  have hw : wtC (S ++ [y]) = wtC S ++ [.int .i64 y.2] := by simp [wtC]
  refine ⟨⟨h.eqs.1.trans hx0.os, h.eqs.2.1.trans hx0.tape, h.eqs.2.2.trans hx0.output, ?_, fun b hb => ?_⟩, some ⟨g1, 0, none⟩, p1, some ⟨g2, 0, none⟩, p2, ?_, ?_, ?_, ?_⟩
  · have h1 := hx0.size; have h2 := h.size
    rw [World.size_setCell, World.size_setCell]; omega
  · refine (far b (by omega)).trans ((h.keep b (by omega) (fun e => ?_) (fun e => ?_)).trans (hx0.block b hb))
    · have := hlow b (.inl e); omega
    · have := hlow b (.inr e); omega
  · rw [hlen]; exact k2
  · rw [hlen, hc]; exact own_keep h.cown (fun b hb => far b (by have := own_block_le h.cown hb; omega))
  · rw [hlen, hw]; exact own_keep h.wown (fun b hb => far b (by have := own_block_le h.wown hb; omega))
  · rw [hlen]; exact h.dis
end Go.Proofs.YtkdopjkdokgipaaGreatDoor
namespace Go.Proofs.YtkdopjkdokgipaaGreatDoor
open Go.RowKit Go.Shelf
set_option linter.unusedVariables false
set_option linter.unusedSimpArgs false
/-- what slices.SortFunc does to chords -/
def SortCh (W : World) (base : Nat) (ca : Option Addr) (L : List CH) (e : Ending) (w' : World) : Prop :=
  e = .returned (.tuple #[]) ∧ ∃ S : List CH, S.Perm L ∧ S.Pairwise (fun x y => x.1 ≤ y.1) ∧ CRow w' ca S ∧ Below base W w'
def ShSort : Prop := ∀ (W : World) (base : Nat) (ca : Option Addr) (cc : Nat) (L : List CH), W.ownsRow base 83 2 (.slice ca L.length cc) L.length (crC L) → base ≤ W.heap.size → L.length ≤ 43200000002 →
  Calls Tryz.prog 33 #[.slice ca L.length cc, .func (.func 34) #[] #[]] W (SortCh W base ca L)
/-- what Shine hands back, where the ray can be walked and the span is one -/
def ShRes (v : VO) (r : RY) (g : Nat → Int) (lo hi : Int) (w : World) (e : Ending) (w' : World) : Prop :=
  ∃ m S, IsM v r m ∧ S.Perm (chs (prN v r g (m + 1))) ∧ S.Pairwise (fun x y => x.1 ≤ y.1) ∧ Below w.heap.size w w' ∧
    (((∀ x ∈ S, x.2 ≤ 1000000) ∧ ∃ ca cc wa wc, e = .returned (.tuple #[.agg #[.slice ca S.length cc, .slice wa S.length wc, .int .i64 lo, .int .i64 hi], .int .i64 0]) ∧ w'.ownsRow w.heap.size 3 1 (.slice ca S.length cc) S.length (clC S) ∧ w'.ownsRow w.heap.size 3 1 (.slice wa S.length wc) S.length (wtC S)) ∨
     ((∃ x ∈ S, 1000000 < x.2) ∧ e = .returned (.tuple #[.agg #[.slice none 0 0, .slice none 0 0, .int .i64 0, .int .i64 0], .int .i64 3])))
theorem sh_int {a : Int} : ∀ u ∈ [Value.int .i64 a], u.oneCell' = true := by intro u hu; simp at hu; subst hu; rfl
theorem ch_take (S : List CH) {i : Nat} (h : i < S.length) : S.take (i + 1) = S.take i ++ [S.getD i ch0] := by
  rw [List.take_add_one, List.getElem?_eq_getElem h, List.getD_eq_getElem?_getD, List.getElem?_eq_getElem h]
  rfl
theorem set4 (W : World) (q : Nat) (T : TypeId) (a0 a1 a2 a3 v0 v1 v2 v3 : Value) (h : W.heap[q]? = some (.cells #[a0, a1, a2, a3] T)) :
    ((((W.setCell ⟨q, 0, none⟩ v0).setCell ⟨q, 1, none⟩ v1).setCell ⟨q, 2, none⟩ v2).setCell ⟨q, 3, none⟩ v3).heap[q]? = some (.cells #[v0, v1, v2, v3] T) ∧ (∀ b, b ≠ q → ((((W.setCell ⟨q, 0, none⟩ v0).setCell ⟨q, 1, none⟩ v1).setCell ⟨q, 2, none⟩ v2).setCell ⟨q, 3, none⟩ v3).heap[b]? = W.heap[b]?) ∧
    (∀ w, Below w.heap.size w W → w.heap.size ≤ q → Below w.heap.size w ((((W.setCell ⟨q, 0, none⟩ v0).setCell ⟨q, 1, none⟩ v1).setCell ⟨q, 2, none⟩ v2).setCell ⟨q, 3, none⟩ v3)) := by
  have h0 := heap_setCell_same W q 0 _ _ v0 h
  have h1 := heap_setCell_same _ q 1 _ _ v1 h0
  have h2 := heap_setCell_same _ q 2 _ _ v2 h1
  have h3 := heap_setCell_same _ q 3 _ _ v3 h2
  refine ⟨h3, fun b hb => ?_, fun w hw hq => (((hw.setCell (p := ⟨q, 0, none⟩) hq v0).setCell (p := ⟨q, 1, none⟩) hq v1).setCell (p := ⟨q, 2, none⟩) hq v2).setCell (p := ⟨q, 3, none⟩) hq v3⟩
  exact (heap_setCell_other _ ⟨q, 3, none⟩ b _ hb).trans ((heap_setCell_other _ ⟨q, 2, none⟩ b _ hb).trans ((heap_setCell_other _ ⟨q, 1, none⟩ b _ hb).trans (heap_setCell_other W ⟨q, 0, none⟩ b _ hb)))
set_option maxRecDepth 100000 in
set_option maxHeartbeats 4000000 in
theorem Shine_ok (hsort : ShSort) (v : VO) (r : RY) (ga : Option Addr) (gn gc : Nat) (g : Nat → Int) (lo hi : Int) (w : World) (hgn : gn ≤ maxLen) (hG : Ints w.heap.size w ga gn g) (hok : rkOk v r gn g = true) (hsp : spanB ⟨lo, hi⟩ 1000000000000 = true) :
    Calls Tryz.prog 6 #[v.val, .slice ga gn gc, r.val, .agg #[.int .i64 lo, .int .i64 hi]] w (ShRes v r g lo hi w) := by
  have HUN := Lib.hid (fun (W : World) (hb : Below w.heap.size w W) => Under_ok v r ga gn gc g W hgn ((hG.below hb).up hb.size) hok)
  have HSP := Lib.hid (fun (W : World) => span_any lo hi 1000000000000 W)
  have HSO := Lib.hid hsort
  have HVR := Lib.hid (show v.Ok ∧ r.Ok from by
    unfold rkOk at hok
    rw [Bool.and_eq_true, Bool.and_eq_true] at hok
    exact ⟨volB_iff.1 hok.1.1, rayB_iff.1 hok.1.2⟩)
  have HRES := Lib.hid (fun (e : Ending) (w' : World) (m : Nat) (S : List CH) (hM : IsM v r m) (h1 : S.Perm (chs (prN v r g (m + 1)))) (h2 : S.Pairwise (fun x y => x.1 ≤ y.1)) (h3 : Below w.heap.size w w') (h4 : _) => show ShRes v r g lo hi w e w' from ⟨m, S, hM, h1, h2, h3, h4⟩)
  generalize ShRes v r g lo hi w = RES at *
  rw [hsp] at HSP
  unfold VO.val RY.val at HUN
  unfold VO.val RY.val
  clear hG hok hsp hsort
  go_enter Tryz.func6, Tryz.ntmps6; go_upto_region 1 with (fail); (obtain ⟨hVb, hVz, e1, e2, e3, e4⟩ := rk_four w (.cells #[.int .i64 v.nx, .int .i64 v.ny, .int .i64 v.nz, .int .i64 v.size] 23) (.cells #[.int .i64 r.x, .int .i64 r.y, .int .i64 r.z, .int .i64 r.dx, .int .i64 r.dy, .int .i64 r.dz] 26) (.cells #[.int .i64 lo, .int .i64 hi] 28) (.cells #[.slice none 0 0, .slice none 0 0, .int .i64 0, .int .i64 0] 31)); have HB := Lib.hid hVb; have HV := Lib.hid e1; have HRY := Lib.hid e2; have HSB := Lib.hid e3; have HRS := Lib.hid e4; have HVZ := Lib.hid hVz; clear hVb hVz e1 e2 e3 e4; generalize World.alloc (World.alloc (World.alloc (World.alloc w _) _) _) _ = V at *; (try clear v0 v1 v2 v3 s0 s1 s2 s3 s4 s5 p0 p1); obtain ⟨v0, v1, v2, v3⟩ := cr4 HV.out; obtain ⟨s0, s1, s2, s3, s4, s5⟩ := cr6 HRY.out; obtain ⟨p0, p1⟩ := cr2 HSB.out
  go_upto_region 4 with (first | (go_at_call 31; refine (HUN.out _ HB.out).mono ?_; rintro e w2 ⟨m, ca, cc, hM, rfl, hown, hb2⟩; have HM := Lib.hid hM; have HOW := Lib.hid hown; have HWW := Lib.hid HB.out.size; have HZ := Lib.hid hb2.size; (replace HB := Lib.hid (HB.out.trans ((hb2).mono HB.out.size)); replace HV := Lib.hid (bs HV.out hb2); replace HRY := Lib.hid (bs HRY.out hb2); replace HSB := Lib.hid (bs HSB.out hb2); replace HRS := Lib.hid (bs HRS.out hb2); (try clear v0 v1 v2 v3 s0 s1 s2 s3 s4 s5 p0 p1); obtain ⟨v0, v1, v2, v3⟩ := cr4 HV.out; obtain ⟨s0, s1, s2, s3, s4, s5⟩ := cr6 HRY.out; obtain ⟨p0, p1⟩ := cr2 HSB.out); clear hM hown hb2) | (go_at_call 32; refine (HSP.out _).mono ?_; rintro e w2 ⟨rfl, hb2⟩; have HOW := Lib.hid (own_below HOW.out hb2); have HZ := Lib.hid (Nat.le_trans HZ.out hb2.size); (replace HB := Lib.hid (HB.out.trans ((hb2).mono HB.out.size)); replace HV := Lib.hid (bs HV.out hb2); replace HRY := Lib.hid (bs HRY.out hb2); replace HSB := Lib.hid (bs HSB.out hb2); replace HRS := Lib.hid (bs HRS.out hb2); (try clear v0 v1 v2 v3 s0 s1 s2 s3 s4 s5 p0 p1); obtain ⟨v0, v1, v2, v3⟩ := cr4 HV.out; obtain ⟨s0, s1, s2, s3, s4, s5⟩ := cr6 HRY.out; obtain ⟨p0, p1⟩ := cr2 HSB.out); clear hb2))
  have HSB2 := Lib.hid (show (prN v r g (m + 1)).length = (chs (prN v r g (m + 1))).length from by simp [chs])
  have hsz := prN_many HVR.out.1 HVR.out.2 (g := g) HM.out
  have HCH := Lib.hid (fun x (hx : x ∈ chs (prN v r g (m + 1))) => show True from trivial)
  have HOW2 := Lib.hid (chC_crC (prN v r g (m + 1)) ▸ HOW.out)
  clear HOW
  rw [HSB2.out] at HOW2 hsz ⊢
  generalize hLC : chs (prN v r g (m + 1)) = L at *
  have HLC := Lib.hid hLC
  clear hLC
  have HVW := HVZ.out
  go_upto_region 5 with (go_at_call 33; refine (HSO.out _ _ _ _ _ HOW2.out HZ.out hsz).mono ?_; rintro e w3 ⟨rfl, S, hp, hs, hcr, hb3⟩; have HPS := Lib.hid (And.intro hp (And.intro hs hcr)); (replace HB := Lib.hid (HB.out.trans ((hb3).mono (by have := HVZ.out; omega))); replace HV := Lib.hid (((hb3).block _ (by have := HVZ.out; omega)).trans HV.out); replace HRY := Lib.hid (((hb3).block _ (by have := HVZ.out; omega)).trans HRY.out); replace HSB := Lib.hid (((hb3).block _ (by have := HVZ.out; omega)).trans HSB.out); replace HRS := Lib.hid (((hb3).block _ (by have := HVZ.out; omega)).trans HRS.out); (try clear v0 v1 v2 v3 s0 s1 s2 s3 s4 s5 p0 p1); obtain ⟨v0, v1, v2, v3⟩ := cr4 HV.out; obtain ⟨s0, s1, s2, s3, s4, s5⟩ := cr6 HRY.out; obtain ⟨p0, p1⟩ := cr2 HSB.out); clear hp hs hcr hb3)
  obtain ⟨hp, hs, hcr⟩ := HPS.out
  have hlen : L.length = S.length := hp.length_eq.symm
  have HPM := Lib.hid (And.intro hp hs)
  have HCR := Lib.hid hcr
  rw [hlen] at hsz ⊢
  clear hp hs hcr HPS HOW2 hlen
  clear HZ
  go_upto_region 7 with (fail)
  have HBW := Lib.hid (HB.out.trans ((rk_below w3 (.cells #[.slice none 0 0, .slice none 0 0, .int .i64 lo, .int .i64 hi] 31)).mono HB.out.size))
  have HT := Lib.hid (show ShT w3.heap.size lo hi [] w3 (w3.alloc (.cells #[.slice none 0 0, .slice none 0 0, .int .i64 lo, .int .i64 hi] 31)) from ⟨rk_below w3 _, none, 0, none, 0, heap_alloc_new w3 _, World.ownsRow_nil _ _ _ _, World.ownsRow_nil _ _ _ _, fun b hb => by simp [Value.ownBlock] at hb⟩)
  clear HV HRY HSB v0 v1 v2 v3 s0 s1 s2 s3 s4 s5 p0 p1
  generalize World.alloc w3 _ = V5 at *
  have HHB := Lib.hid HB.out.size
  obtain ⟨x, hx⟩ : ∃ x, w3.heap.size = x := ⟨_, rfl⟩
  rw [hx] at HT ⊢
  have HX := Lib.hid hx
  obtain ⟨n, hn⟩ : ∃ n, S.length = n := ⟨_, rfl⟩
  have HN := Lib.hid hn
  rw [hn] at hsz ⊢
  clear hx hn
  go_wp2
  go_loopw [39] (fun s39 wr => ∃ i : Nat, i ≤ n ∧ s39 = .int .i64 (i : Int) ∧ Hid ((∀ j, j < i → (S.getD j ch0).2 ≤ 1000000) ∧ ShT x lo hi (S.take i) w3 wr)) (fun s39 _ => n - (intOf s39).toNat)
  case atStart => exact ⟨0, Nat.zero_le _, rfl, Lib.hid ⟨fun j hj => by omega, by simpa using HT.out⟩⟩
  case round =>
    clear HT HBW
    obtain ⟨i, hin, rfl, HY⟩ := hrel
    have HAL := Lib.hid HY.out.1
    have HST := Lib.hid HY.out.2
    clear HY
    have hxw : x ≤ wr.heap.size := by have := HST.out.bel.size; have := HX.out; omega
    by_cases hlt : i < n
    · have hlt' : (i : Int) < (n : Int) := by omega
      rcases HCR.out.step (HX.out ▸ HST.out.bel) with h | ⟨b, rfl, hbz, hcs⟩
      · have := HN.out; omega
      obtain ⟨d0, d1⟩ := hcs i (by have := HN.out; omega)
      have HTK := Lib.hid (ch_take S (i := i) (by have := HN.out; omega))
      have HMEM := Lib.hid (show S.getD i ch0 ∈ S from by
        rw [List.getD_eq_getElem?_getD, List.getElem?_eq_getElem (by have := HN.out; omega)]
        exact List.getElem_mem _)
      have HA2 := Lib.hid (fun (h : (S.getD i ch0).2 ≤ 1000000) j (hj : j < i + 1) => show (S.getD j ch0).2 ≤ 1000000 from by
        by_cases e : j = i
        · subst e; exact h
        · exact HAL.out j (by omega))
      generalize S.getD i ch0 = y at *
      obtain ⟨cc0, cw0⟩ := y
      dsimp only at d0 d1
      clear hcs HAL
      go_upto_region 9 with (fail)
      have hb1 := rk_below wr (.cells #[.int .i64 cc0, .int .i64 cw0] 83)
      have hn1 := heap_alloc_new wr (.cells #[.int .i64 cc0, .int .i64 cw0] 83)
      have hl1 := (bl hn1)
      have HBL := Lib.hid (HST.out.bel.trans (hb1.mono hxw))
      have HCB := Lib.hid hn1
      have HB1 := Lib.hid hb1
      obtain ⟨e0, e1⟩ := cr2 hn1
      clear d0 d1 hb1 hn1 hbz
      generalize World.alloc wr _ = V2 at *
      by_cases hbig : 1000000 < cw0
      · have hrb : V2.heap[w.heap.size + 1 + 1 + 1]? = _ := (HBL.out.block _ (by have h1 := HX.out; have h2 := (bl HRS.out); omega)).trans HRS.out
        (obtain ⟨q0, q1, q2, q3⟩ := cr4 hrb; have f0 := frozen_of_row _ _ 0 _ _ hrb; have f1 := frozen_of_row _ _ 1 _ _ hrb; have f2 := frozen_of_row _ _ 2 _ _ hrb; have f3 := frozen_of_row _ _ 3 _ _ hrb; have HRB := Lib.hid hrb; clear hrb)
        have HFB := Lib.hid (HB.out.trans (HBL.out.mono (by have h1 := HX.out; have := HHB.out; omega)))
        go_wp2
        obtain ⟨z1, z2, z3⟩ := set4 V2 (w.heap.size + 1 + 1 + 1) _ _ _ _ _ (.slice none 0 0) (.slice none 0 0) (.int .i64 0) (.int .i64 0) HRB.out
        have z3 := z3 w HFB.out (by omega)
        clear q0 q1 q2 q3 f0 f1 f2 f3 z2
        generalize World.setCell (World.setCell (World.setCell (World.setCell V2 _ _) _ _) _ _) _ _ = wf at *
        obtain ⟨r0, r1, r2, r3⟩ := cr4 z1
        refine bodyPost_ret (v := .tuple #[.agg #[.slice none 0 0, .slice none 0 0, .int .i64 0, .int .i64 0], .int .i64 3]) (by simp [results, Tryz.results6, go_sem, r0, r1, r2, r3]) rfl ?_
        exact HRES.out _ _ m S HM.out (by rw [HLC.out]; exact HPM.out.1) HPM.out.2 z3 (.inr ⟨⟨_, HMEM.out, hbig⟩, rfl⟩)
      · have hbig' : cw0 ≤ 1000000 := by omega
        have HA3 := Lib.hid (HA2.out hbig')
        obtain ⟨ca0, cp0, wa0, wp0, hbox, hco, hwo, hdis⟩ := HST.out.row
        have hSl : (S.take i).length = i := by rw [List.length_take]; have := HN.out; omega
        rw [hSl] at hbox hco hwo hdis
        have hxl := (bl hbox)
        have hbox2 := (HB1.out.block x hxl).trans hbox
        have hcl : ∀ b, (Value.slice ca0 i cp0).ownBlock = some b → x < b := fun b hb => own_block_le hco hb
        have hwl : ∀ b, (Value.slice wa0 i wp0).ownBlock = some b → x < b := fun b hb => own_block_le hwo hb
        have hcr : ∀ b, (Value.slice ca0 i cp0).ownBlock = some b → b < wr.heap.size := fun b hb => (hco.lt b hb).2
        have hwr : ∀ b, (Value.slice wa0 i wp0).ownBlock = some b → b < wr.heap.size := fun b hb => (hwo.lt b hb).2
        have hv2 : x + 1 ≤ V2.heap.size := by have := HB1.out.size; omega
        have HBP := Lib.hid (BP.start (W := V2.drew) (own_below hco HB1.out.drew) (own_below hwo HB1.out.drew) hdis hv2)
        have HSS := Lib.hid (fun (W : World) (vc vw : Value) (kc kw : Nat) (cs ws : List Value) (h : BP (x + 1) V2.drew W (.slice ca0 i cp0) (.slice wa0 i wp0) vc vw kc kw cs ws) => show W.heap[x]? = some (.cells #[.slice ca0 i cp0, .slice wa0 i wp0, .int .i64 lo, .int .i64 hi] 31) ∧ W.heap[wr.heap.size]? = some (.cells #[.int .i64 cc0, .int .i64 cw0] 83) from
          ⟨(h.keep x (show x < V2.heap.size by omega) (fun e => by have := hcl _ e; omega) (fun e => by have := hwl _ e; omega)).trans hbox2, (h.keep wr.heap.size (show wr.heap.size < V2.heap.size from hl1) (fun e => by have := hcr _ e; omega) (fun e => by have := hwr _ e; omega)).trans HCB.out⟩)
        have HNEXT := Lib.hid (fun (W : World) (g1 p1 g2 p2 : Nat) (h : BP (x + 1) V2.drew W (.slice ca0 i cp0) (.slice wa0 i wp0) (.slice (some ⟨g1, 0, none⟩) (i + 1) p1) (.slice (some ⟨g2, 0, none⟩) (i + 1) p2) (i + 1) (i + 1) (clC (S.take i) ++ [.int .i64 cc0]) (wtC (S.take i) ++ [.int .i64 cw0])) =>
          And.intro HA3.out (show ShT x lo hi (S.take (i + 1)) w3 ((W.setCell ⟨x, 0, none⟩ (.slice (some ⟨g1, 0, none⟩) (i + 1) p1)).setCell ⟨x, 1, none⟩ (.slice (some ⟨g2, 0, none⟩) (i + 1) p2)) from by
            rw [HTK.out]
            have h2 := ShT.next (x := x) (lo := lo) (hi := hi) (S := S.take i) (Wb := w3) (y := (cc0, cw0)) (HBL.out.drew) (fun e => by have := hcl _ e; omega) (fun e => by have := hwl _ e; omega) (fun b e => by rcases e with e | e; exact hcl b e; exact hwl b e) hbox2 (by rw [hSl]; exact h)
            rwa [hSl] at h2))
        clear hSl hbox hco hwo hdis hcl hwl hcr hwr hbox2 HTK
        obtain ⟨i1, hi1, hz10, hz11, hz12⟩ := info_parts (show (Tryz.prog.info? 3).map (fun i => (i.zero, i.size, i.bytes)) = some (some (.int .i64 0), 1, 8) by kernel_rfl)
        have hb63 : i + 1 ≤ maxLen := by unfold maxLen; omega
        have hb47 : (i + 1) * 8 ≤ 140737488355328 := by omega
        clear HCB HB1
        go_upto_region 11 with (fail)
        refine wp_region_any (by kernel_rfl) ?_
        change wpAny _ _ _ _ _ _ _ (World.drew V2)
        generalize World.drew V2 = wd at *
        generalize wr.heap.size = q at *
        refine any_of_tail 13 13 (fun w' => w'.heap[x]? = some (.cells #[.slice ca0 i cp0, .slice wa0 i wp0, .int .i64 lo, .int .i64 hi] 31) ∧ w'.heap[q]? = some (.cells #[.int .i64 cc0, .int .i64 cw0] 83)) (by kernel_rfl) (HSS.out _ _ _ _ _ _ _ HBP.out) (fun hS => ?_)
        clear e0 e1
        refine headH_take (i := 0) (v := ?_) rfl (by kernel_rfl) (fun _ _ _ h => h) (Or.inl ⟨by rfl, ?_⟩) (by assumption) ?_; rotate_left; (· intro w' hSw; (try dsimp only at hSw); obtain ⟨hA, hC⟩ := hSw; obtain ⟨a0, a1⟩ := cr2 hA; obtain ⟨b0, b1⟩ := cr2 hC; clear hA hC; (try simp only [hng]); go_simp; (try with_reducible rfl)); (try simp only [hng]); (try dsimp only [Act.put]); (try simp only [hns])
        refine headH_take (i := 1) (v := ?_) rfl (by kernel_rfl) (fun _ _ _ h => h) (Or.inl ⟨by rfl, ?_⟩) (by assumption) ?_; rotate_left; (· intro w' hSw; (try dsimp only at hSw); obtain ⟨hA, hC⟩ := hSw; obtain ⟨a0, a1⟩ := cr2 hA; obtain ⟨b0, b1⟩ := cr2 hC; clear hA hC; (try simp only [hng]); go_simp; (try with_reducible rfl)); (try simp only [hng]); (try dsimp only [Act.put]); (try simp only [hns])
        refine headH_take (i := 2) (v := ?_) rfl (by kernel_rfl) (fun _ _ _ h => h) (Or.inl ⟨by rfl, ?_⟩) (by assumption) ?_; rotate_left; (· intro w' hSw; (try dsimp only at hSw); obtain ⟨hA, hC⟩ := hSw; obtain ⟨a0, a1⟩ := cr2 hA; obtain ⟨b0, b1⟩ := cr2 hC; clear hA hC; (try simp only [hng]); go_simp; (try with_reducible rfl)); (try simp only [hng]); (try dsimp only [Act.put]); (try simp only [hns])
        refine headH_take (i := 3) (v := ?_) rfl (by kernel_rfl) (fun _ _ _ h => h) (Or.inl ⟨by rfl, ?_⟩) (by assumption) ?_; rotate_left; (· intro w' hSw; (try dsimp only at hSw); obtain ⟨hA, hC⟩ := hSw; obtain ⟨a0, a1⟩ := cr2 hA; obtain ⟨b0, b1⟩ := cr2 hC; clear hA hC; (try simp only [hng]); go_simp; (try with_reducible rfl)); (try simp only [hng]); (try dsimp only [Act.put]); (try simp only [hns])
        refine headH_take (i := 6) (v := ?_) rfl (by kernel_rfl) (fun _ _ _ h => h) (Or.inl ⟨by rfl, ?_⟩) (by assumption) ?_; rotate_left; (· intro w' hSw; (try dsimp only at hSw); obtain ⟨hA, hC⟩ := hSw; obtain ⟨a0, a1⟩ := cr2 hA; obtain ⟨b0, b1⟩ := cr2 hC; clear hA hC; (try simp only [hng]); go_simp; (try with_reducible rfl)); (try simp only [hng]); (try dsimp only [Act.put]); (try simp only [hns])
        refine headH_take (i := 7) (v := ?_) rfl (by kernel_rfl) (fun _ _ _ h => h) (Or.inl ⟨by rfl, ?_⟩) (by assumption) ?_; rotate_left; (· intro w' hSw; (try dsimp only at hSw); obtain ⟨hA, hC⟩ := hSw; obtain ⟨a0, a1⟩ := cr2 hA; obtain ⟨b0, b1⟩ := cr2 hC; clear hA hC; (try simp only [hng]); go_simp; (try with_reducible rfl)); (try simp only [hng]); (try dsimp only [Act.put]); (try simp only [hns])
        refine headH_take (i := 8) (v := ?_) rfl (by kernel_rfl) (fun _ _ _ h => h) (Or.inl ⟨by rfl, ?_⟩) (by assumption) ?_; rotate_left; (· intro w' hSw; (try dsimp only at hSw); obtain ⟨hA, hC⟩ := hSw; obtain ⟨a0, a1⟩ := cr2 hA; obtain ⟨b0, b1⟩ := cr2 hC; clear hA hC; (try simp only [hng]); go_simp; (try with_reducible rfl)); (try simp only [hng]); (try dsimp only [Act.put]); (try simp only [hns])
        refine headH_take (i := 9) (v := ?_) rfl (by kernel_rfl) (fun _ _ _ h => h) (Or.inl ⟨by rfl, ?_⟩) (by assumption) ?_; rotate_left; (· intro w' hSw; (try dsimp only at hSw); obtain ⟨hA, hC⟩ := hSw; obtain ⟨a0, a1⟩ := cr2 hA; obtain ⟨b0, b1⟩ := cr2 hC; clear hA hC; (try simp only [hng]); go_simp; (try with_reducible rfl)); (try simp only [hng]); (try dsimp only [Act.put]); (try simp only [hns])
        refine headH_all (rs := [4, 10]) (by kernel_rfl) (by simp) (by kernel_rfl) ?_; intro i0 hi0; simp only [List.mem_cons, List.not_mem_nil, or_false] at hi0
        rcases hi0 with rfl | rfl
        · (refine headH_op rfl (fun K hK => ?_); (try simp only [hng]); go_simp; have HP1 := Lib.hid (PB.new HBP.out cc0); replace HBP := Lib.hid (HBP.out.alloc (.cells #[.int .i64 cc0] 3)); (have HSx := Lib.hid (HSS.out _ _ _ _ _ _ _ HBP.out); refine hK.out _ _ HSx.out (fun hS => ?_); clear hK K HSx; (try simp only [hng]); (try dsimp only [Act.put]); (try simp only [hns])); generalize World.alloc wd _ = W1 at *)
          refine headH_all (rs := [5, 10]) (by kernel_rfl) (by simp) (by kernel_rfl) ?_; intro i0 hi0; simp only [List.mem_cons, List.not_mem_nil, or_false] at hi0
          rcases hi0 with rfl | rfl
          · (refine headH_op rfl (fun K hK => ?_); refine step_append_lies _ rfl _ _ 24 rfl (x + 1) 3 i1 (.int .i64 0) 1 8 Tryz.underlying24 hi1 hz10 hz11 hz12 rfl (by decide) _ i _ rfl HBP.out.cown _ 1 1 [.int .i64 cc0] rfl rfl (World.news_of_block HP1.out.1) sh_int (by decide) hb63 hb47 (by have h1 := HBP.out.size; have h2 := HBP.out.le; omega) _ rfl ?_; intro g1 p1 W2 hown hgrow hat _; (try replace HP2 := Lib.hid (HP2.out.appC (kc' := i + 1) (p := p1) hgrow hat)); replace HBP := Lib.hid (HBP.out.appC hgrow hown hat); clear hown hgrow hat; (have HSx := Lib.hid (HSS.out _ _ _ _ _ _ _ HBP.out); refine hK.out _ _ HSx.out (fun hS => ?_); clear hK K HSx; (try simp only [hng]); (try dsimp only [Act.put]); (try simp only [hns])))
            refine headH_take (i := 12) (v := ?_) rfl (by kernel_rfl) (fun _ _ _ h => h) (Or.inl ⟨by rfl, ?_⟩) (by assumption) ?_; rotate_left; (· intro w' hSw; (try dsimp only at hSw); obtain ⟨hA, hC⟩ := hSw; obtain ⟨a0, a1⟩ := cr2 hA; obtain ⟨b0, b1⟩ := cr2 hC; clear hA hC; (try simp only [hng]); go_simp; (try with_reducible rfl)); (try simp only [hng]); (try dsimp only [Act.put]); (try simp only [hns])
            refine headH_all (rs := [10]) (by kernel_rfl) (by simp) (by kernel_rfl) ?_; intro i0 hi0; simp only [List.mem_cons, List.not_mem_nil, or_false] at hi0
            subst hi0
            (refine headH_op rfl (fun K hK => ?_); (try simp only [hng]); go_simp; have HP2 := Lib.hid (PB.new HBP.out cw0); (try replace HP1 := Lib.hid (HP1.out.alloc (.cells #[.int .i64 cw0] 3))); replace HBP := Lib.hid (HBP.out.alloc (.cells #[.int .i64 cw0] 3)); (have HSx := Lib.hid (HSS.out _ _ _ _ _ _ _ HBP.out); refine hK.out _ _ HSx.out (fun hS => ?_); clear hK K HSx; (try simp only [hng]); (try dsimp only [Act.put]); (try simp only [hns])); generalize World.alloc W2 _ = W3 at *)
            refine headH_all (rs := [11]) (by kernel_rfl) (by simp) (by kernel_rfl) ?_; intro i0 hi0; simp only [List.mem_cons, List.not_mem_nil, or_false] at hi0
            subst hi0
            (refine headH_op rfl (fun K hK => ?_); refine step_append_lies _ rfl _ _ 24 rfl (x + 1) 3 i1 (.int .i64 0) 1 8 Tryz.underlying24 hi1 hz10 hz11 hz12 rfl (by decide) _ i _ rfl HBP.out.wown _ 1 1 [.int .i64 cw0] rfl rfl (World.news_of_block HP2.out.1) sh_int (by decide) hb63 hb47 (by have h1 := HBP.out.size; have h2 := HBP.out.le; omega) _ rfl ?_; intro g2 p2 W4 hown hgrow hat _; replace HBP := Lib.hid (HBP.out.appW hgrow hown hat); clear hown hgrow hat; (have HSx := Lib.hid (HSS.out _ _ _ _ _ _ _ HBP.out); refine hK.out _ _ HSx.out (fun hS => ?_); clear hK K HSx; (try simp only [hng]); (try dsimp only [Act.put]); (try simp only [hns])))
            (change tailL _ _ _ _ _ _ _ _; refine ⟨by kernel_rfl, ?_⟩; simp only [List.drop_succ_cons, List.drop_zero]; have hbx := (HSS.out _ _ _ _ _ _ _ HBP.out).1; obtain ⟨a0, a1⟩ := cr2 hbx; have f0 := frozen_of_row _ _ 0 _ _ hbx; have f1 := frozen_of_row _ _ 1 _ _ hbx; have HNX := Lib.hid (HNEXT.out _ _ _ _ _ HBP.out); clear hbx hS HBP; go_wp2; go_roundw; (· exact ⟨i + 1, by omega, by go_num, HNX⟩); (· simp [intOf]; omega))
          · (refine headH_op rfl (fun K hK => ?_); (try simp only [hng]); go_simp; have HP2 := Lib.hid (PB.new HBP.out cw0); (try replace HP1 := Lib.hid (HP1.out.alloc (.cells #[.int .i64 cw0] 3))); replace HBP := Lib.hid (HBP.out.alloc (.cells #[.int .i64 cw0] 3)); (have HSx := Lib.hid (HSS.out _ _ _ _ _ _ _ HBP.out); refine hK.out _ _ HSx.out (fun hS => ?_); clear hK K HSx; (try simp only [hng]); (try dsimp only [Act.put]); (try simp only [hns])); generalize World.alloc W1 _ = W2 at *)
            refine headH_all (rs := [5]) (by kernel_rfl) (by simp) (by kernel_rfl) ?_; intro i0 hi0; simp only [List.mem_cons, List.not_mem_nil, or_false] at hi0
            subst hi0
            (refine headH_op rfl (fun K hK => ?_); refine step_append_lies _ rfl _ _ 24 rfl (x + 1) 3 i1 (.int .i64 0) 1 8 Tryz.underlying24 hi1 hz10 hz11 hz12 rfl (by decide) _ i _ rfl HBP.out.cown _ 1 1 [.int .i64 cc0] rfl rfl (World.news_of_block HP1.out.1) sh_int (by decide) hb63 hb47 (by have h1 := HBP.out.size; have h2 := HBP.out.le; omega) _ rfl ?_; intro g1 p1 W3 hown hgrow hat _; (try replace HP2 := Lib.hid (HP2.out.appC (kc' := i + 1) (p := p1) hgrow hat)); replace HBP := Lib.hid (HBP.out.appC hgrow hown hat); clear hown hgrow hat; (have HSx := Lib.hid (HSS.out _ _ _ _ _ _ _ HBP.out); refine hK.out _ _ HSx.out (fun hS => ?_); clear hK K HSx; (try simp only [hng]); (try dsimp only [Act.put]); (try simp only [hns])))
            refine headH_take (i := 12) (v := ?_) rfl (by kernel_rfl) (fun _ _ _ h => h) (Or.inl ⟨by rfl, ?_⟩) (by assumption) ?_; rotate_left; (· intro w' hSw; (try dsimp only at hSw); obtain ⟨hA, hC⟩ := hSw; obtain ⟨a0, a1⟩ := cr2 hA; obtain ⟨b0, b1⟩ := cr2 hC; clear hA hC; (try simp only [hng]); go_simp; (try with_reducible rfl)); (try simp only [hng]); (try dsimp only [Act.put]); (try simp only [hns])
            refine headH_all (rs := [11]) (by kernel_rfl) (by simp) (by kernel_rfl) ?_; intro i0 hi0; simp only [List.mem_cons, List.not_mem_nil, or_false] at hi0
            subst hi0
            (refine headH_op rfl (fun K hK => ?_); refine step_append_lies _ rfl _ _ 24 rfl (x + 1) 3 i1 (.int .i64 0) 1 8 Tryz.underlying24 hi1 hz10 hz11 hz12 rfl (by decide) _ i _ rfl HBP.out.wown _ 1 1 [.int .i64 cw0] rfl rfl (World.news_of_block HP2.out.1) sh_int (by decide) hb63 hb47 (by have h1 := HBP.out.size; have h2 := HBP.out.le; omega) _ rfl ?_; intro g2 p2 W4 hown hgrow hat _; replace HBP := Lib.hid (HBP.out.appW hgrow hown hat); clear hown hgrow hat; (have HSx := Lib.hid (HSS.out _ _ _ _ _ _ _ HBP.out); refine hK.out _ _ HSx.out (fun hS => ?_); clear hK K HSx; (try simp only [hng]); (try dsimp only [Act.put]); (try simp only [hns])))
            (change tailL _ _ _ _ _ _ _ _; refine ⟨by kernel_rfl, ?_⟩; simp only [List.drop_succ_cons, List.drop_zero]; have hbx := (HSS.out _ _ _ _ _ _ _ HBP.out).1; obtain ⟨a0, a1⟩ := cr2 hbx; have f0 := frozen_of_row _ _ 0 _ _ hbx; have f1 := frozen_of_row _ _ 1 _ _ hbx; have HNX := Lib.hid (HNEXT.out _ _ _ _ _ HBP.out); clear hbx hS HBP; go_wp2; go_roundw; (· exact ⟨i + 1, by omega, by go_num, HNX⟩); (· simp [intOf]; omega))
        · (refine headH_op rfl (fun K hK => ?_); (try simp only [hng]); go_simp; have HP2 := Lib.hid (PB.new HBP.out cw0); (try replace HP1 := Lib.hid (HP1.out.alloc (.cells #[.int .i64 cw0] 3))); replace HBP := Lib.hid (HBP.out.alloc (.cells #[.int .i64 cw0] 3)); (have HSx := Lib.hid (HSS.out _ _ _ _ _ _ _ HBP.out); refine hK.out _ _ HSx.out (fun hS => ?_); clear hK K HSx; (try simp only [hng]); (try dsimp only [Act.put]); (try simp only [hns])); generalize World.alloc wd _ = W1 at *)
          refine headH_all (rs := [4]) (by kernel_rfl) (by simp) (by kernel_rfl) ?_; intro i0 hi0; simp only [List.mem_cons, List.not_mem_nil, or_false] at hi0
          subst hi0
          (refine headH_op rfl (fun K hK => ?_); (try simp only [hng]); go_simp; have HP1 := Lib.hid (PB.new HBP.out cc0); replace HP2 := Lib.hid (HP2.out.alloc (.cells #[.int .i64 cc0] 3)); replace HBP := Lib.hid (HBP.out.alloc (.cells #[.int .i64 cc0] 3)); (have HSx := Lib.hid (HSS.out _ _ _ _ _ _ _ HBP.out); refine hK.out _ _ HSx.out (fun hS => ?_); clear hK K HSx; (try simp only [hng]); (try dsimp only [Act.put]); (try simp only [hns])); generalize World.alloc W1 _ = W2 at *)
          refine headH_all (rs := [5]) (by kernel_rfl) (by simp) (by kernel_rfl) ?_; intro i0 hi0; simp only [List.mem_cons, List.not_mem_nil, or_false] at hi0
          subst hi0
          (refine headH_op rfl (fun K hK => ?_); refine step_append_lies _ rfl _ _ 24 rfl (x + 1) 3 i1 (.int .i64 0) 1 8 Tryz.underlying24 hi1 hz10 hz11 hz12 rfl (by decide) _ i _ rfl HBP.out.cown _ 1 1 [.int .i64 cc0] rfl rfl (World.news_of_block HP1.out.1) sh_int (by decide) hb63 hb47 (by have h1 := HBP.out.size; have h2 := HBP.out.le; omega) _ rfl ?_; intro g1 p1 W3 hown hgrow hat _; (try replace HP2 := Lib.hid (HP2.out.appC (kc' := i + 1) (p := p1) hgrow hat)); replace HBP := Lib.hid (HBP.out.appC hgrow hown hat); clear hown hgrow hat; (have HSx := Lib.hid (HSS.out _ _ _ _ _ _ _ HBP.out); refine hK.out _ _ HSx.out (fun hS => ?_); clear hK K HSx; (try simp only [hng]); (try dsimp only [Act.put]); (try simp only [hns])))
          refine headH_take (i := 12) (v := ?_) rfl (by kernel_rfl) (fun _ _ _ h => h) (Or.inl ⟨by rfl, ?_⟩) (by assumption) ?_; rotate_left; (· intro w' hSw; (try dsimp only at hSw); obtain ⟨hA, hC⟩ := hSw; obtain ⟨a0, a1⟩ := cr2 hA; obtain ⟨b0, b1⟩ := cr2 hC; clear hA hC; (try simp only [hng]); go_simp; (try with_reducible rfl)); (try simp only [hng]); (try dsimp only [Act.put]); (try simp only [hns])
          refine headH_all (rs := [11]) (by kernel_rfl) (by simp) (by kernel_rfl) ?_; intro i0 hi0; simp only [List.mem_cons, List.not_mem_nil, or_false] at hi0
          subst hi0
          (refine headH_op rfl (fun K hK => ?_); refine step_append_lies _ rfl _ _ 24 rfl (x + 1) 3 i1 (.int .i64 0) 1 8 Tryz.underlying24 hi1 hz10 hz11 hz12 rfl (by decide) _ i _ rfl HBP.out.wown _ 1 1 [.int .i64 cw0] rfl rfl (World.news_of_block HP2.out.1) sh_int (by decide) hb63 hb47 (by have h1 := HBP.out.size; have h2 := HBP.out.le; omega) _ rfl ?_; intro g2 p2 W4 hown hgrow hat _; replace HBP := Lib.hid (HBP.out.appW hgrow hown hat); clear hown hgrow hat; (have HSx := Lib.hid (HSS.out _ _ _ _ _ _ _ HBP.out); refine hK.out _ _ HSx.out (fun hS => ?_); clear hK K HSx; (try simp only [hng]); (try dsimp only [Act.put]); (try simp only [hns])))
          (change tailL _ _ _ _ _ _ _ _; refine ⟨by kernel_rfl, ?_⟩; simp only [List.drop_succ_cons, List.drop_zero]; have hbx := (HSS.out _ _ _ _ _ _ _ HBP.out).1; obtain ⟨a0, a1⟩ := cr2 hbx; have f0 := frozen_of_row _ _ 0 _ _ hbx; have f1 := frozen_of_row _ _ 1 _ _ hbx; have HNX := Lib.hid (HNEXT.out _ _ _ _ _ HBP.out); clear hbx hS HBP; go_wp2; go_roundw; (· exact ⟨i + 1, by omega, by go_num, HNX⟩); (· simp [intOf]; omega))
    · obtain rfl : i = n := by omega
      have hlt' : ¬ (i : Int) < (i : Int) := by omega
      obtain ⟨ca0, cp0, wa0, wp0, hbox, hco, hwo, hdis⟩ := HST.out.row
      have hSl : S.take i = S := List.take_of_length_le (by have := HN.out; omega)
      rw [hSl, HN.out] at hbox hco hwo
      have hall : ∀ y ∈ S, y.2 ≤ 1000000 := fun y hy => by
        obtain ⟨j, hj, rfl⟩ := List.mem_iff_getElem.1 hy
        have := HAL.out j (by have := HN.out; omega)
        rwa [List.getD_eq_getElem?_getD, List.getElem?_eq_getElem hj] at this
      have hrl : w.heap.size + 1 + 1 + 1 < x := by have h1 := HX.out; have h2 := (bl HRS.out); omega
      have hrb : wr.heap[w.heap.size + 1 + 1 + 1]? = _ := (HST.out.bel.block _ hrl).trans HRS.out
      (obtain ⟨q0, q1, q2, q3⟩ := cr4 hrb; have f0 := frozen_of_row _ _ 0 _ _ hrb; have f1 := frozen_of_row _ _ 1 _ _ hrb; have f2 := frozen_of_row _ _ 2 _ _ hrb; have f3 := frozen_of_row _ _ 3 _ _ hrb; have HRB := Lib.hid hrb; clear hrb)
      obtain ⟨a0, a1, a2, a3⟩ := cr4 hbox
      have HFB := Lib.hid (HB.out.trans (HST.out.bel.mono (by have h1 := HX.out; have := HHB.out; omega)))
      have HOC := Lib.hid (fun (W' : World) (h : ∀ b, b ≠ w.heap.size + 1 + 1 + 1 → W'.heap[b]? = wr.heap[b]?) => And.intro (own_base (own_keep hco (fun b hb => h b (by have := own_block_le hco hb; omega))) (show w.heap.size ≤ x + 1 by omega)) (own_base (own_keep hwo (fun b hb => h b (by have := own_block_le hwo hb; omega))) (show w.heap.size ≤ x + 1 by omega)))
      have HALL := Lib.hid hall
      clear hbox hco hwo hdis hSl hall HST HAL
      go_wp2
      obtain ⟨z1, z2, z3⟩ := set4 wr (w.heap.size + 1 + 1 + 1) _ _ _ _ _ (.slice ca0 i cp0) (.slice wa0 i wp0) (.int .i64 lo) (.int .i64 hi) HRB.out
      have z3 := z3 w HFB.out (by omega)
      have HO2 := Lib.hid (HOC.out _ z2)
      clear q0 q1 q2 q3 f0 f1 f2 f3 z2 a0 a1 a2 a3
      generalize World.setCell (World.setCell (World.setCell (World.setCell wr _ _) _ _) _ _) _ _ = wf at *
      obtain ⟨r0, r1, r2, r3⟩ := cr4 z1
      refine bodyPost_ret (v := .tuple #[.agg #[.slice ca0 i cp0, .slice wa0 i wp0, .int .i64 lo, .int .i64 hi], .int .i64 0]) (by simp [results, Tryz.results6, go_sem, r0, r1, r2, r3]) rfl ?_
      exact HRES.out _ _ m S HM.out (by rw [HLC.out]; exact HPM.out.1) HPM.out.2 z3 (.inl ⟨HALL.out, ca0, cp0, wa0, wp0, by rw [HN.out], by rw [HN.out]; exact HO2.out.1, by rw [HN.out]; exact HO2.out.2⟩)
end Go.Proofs.YtkdopjkdokgipaaGreatDoor
namespace Go.Proofs.YtkdopjkdokgipaaGreatDoor
open Go.RowKit
set_option linter.unusedVariables false
set_option linter.unusedSimpArgs false
def lenS : List PT → Int
  | [] => 0
  | p :: t => (p.hi - p.lo) + lenS t
def opS (d : Nat → Int) : List PT → Int
  | [] => 0
  | p :: t => (p.hi - p.lo) * d p.cell.toNat + opS d t
theorem lenS_append : ∀ (a b : List PT), lenS (a ++ b) = lenS a + lenS b
  | [], b => by simp [lenS]
  | p :: t, b => by rw [List.cons_append, lenS, lenS, lenS_append t b]; omega
theorem opS_append (d : Nat → Int) : ∀ (a b : List PT), opS d (a ++ b) = opS d a + opS d b
  | [], b => by simp [opS]
  | p :: t, b => by rw [List.cons_append, opS, opS, opS_append d t b]; omega
theorem cut_in (v : VO) (r : RY) (g : Nat → Int) (p : PT) (h : (cutF v r g p).lo < (cutF v r g p).hi) : p.lo ≤ (cutF v r g p).lo ∧ (cutF v r g p).hi ≤ p.hi := by
  unfold cutF at h ⊢
  split
  · dsimp only; omega
  · rename_i h1
    rw [if_neg h1] at h
    split
    · dsimp only; omega
    · rename_i h2
      rw [if_neg h2] at h
      split
      · rename_i h3; rw [if_pos h3] at h; dsimp only at h; omega
      · omega
theorem one_lenS (v : VO) (r : RY) (g : Nat → Int) (p q : Int) (hpq : p ≤ q) : lenS (oneF v r g p q) ≤ q - p := by
  unfold oneF
  split
  · simp [lenS]; omega
  · split
    · rename_i h1 h2
      have := cut_in v r g _ h2
      dsimp only at this
      simp only [lenS]
      omega
    · simp [lenS]; omega
theorem prN_lenS {v : VO} {r : RY} (hv : v.Ok) (hr : r.Ok) (g : Nat → Int) : ∀ k, (∀ j, j ≤ k → 0 ≤ atF v r j) → lenS (prN v r g (k + 1)) ≤ atF v r k
  | 0, _ => by simp [prN, lenS, atF]
  | k + 1, h => by
    have ih := prN_lenS hv hr g k (fun j hj => h j (by omega))
    have hup : atF v r k < atF v r (k + 1) := by
      rcases nxF_ok hv hr (atF_low hv hr k).1 with h2 | h2
      · have := h (k + 1) (Nat.le_refl _); rw [atF, h2] at this; omega
      · rw [atF]; omega
    have h1 := one_lenS v r g (atF v r k) (atF v r (k + 1)) (by omega)
    rw [prN, lenS_append]
    omega
theorem lenS_nn {N : Int} : ∀ (l : List PT), (∀ p ∈ l, PtOk N p) → 0 ≤ lenS l
  | [], _ => by simp [lenS]
  | p :: t, h => by
    have h1 := (h p (by simp)).2.1
    have h2 := lenS_nn t (fun q hq => h q (by simp [hq]))
    rw [lenS]; omega
theorem opS_bound {N : Int} {d : Nat → Int} (hd : ∀ c : Nat, (c : Int) < N → 0 ≤ d c ∧ d c ≤ 10000) : ∀ (l : List PT), (∀ p ∈ l, PtOk N p) → 0 ≤ opS d l ∧ opS d l ≤ 10000 * lenS l
  | [], _ => by simp [opS, lenS]
  | p :: t, h => by
    obtain ⟨⟨h1, h2⟩, h3, _⟩ := h p (by simp)
    have h4 := opS_bound hd t (fun q hq => h q (by simp [hq]))
    have h5 := hd p.cell.toNat (by omega)
    have h6 : 0 ≤ (p.hi - p.lo) * d p.cell.toNat := Int.mul_nonneg (by omega) (by omega)
    have h7 : (p.hi - p.lo) * d p.cell.toNat ≤ (p.hi - p.lo) * 10000 := Int.mul_le_mul_of_nonneg_left (by omega) (by omega)
    rw [opS, lenS]
    omega
theorem opd_any (db : Nat) (da : Option Addr) (dn dc : Nat) (d : Nat → Int) (c : Nat) (w : World) (hb : w.cell? ⟨db, 0, none⟩ = some (.slice da dn dc)) (hD : Ints w.heap.size w da dn d) (hc : c < dn) (hdn : dn ≤ maxLen) :
    Calls Tryz.prog 45 #[.int .i64 (c : Int), .pointer (some ⟨db, 0, none⟩)] w fun e w' => e = .returned (.int .i64 (d c)) ∧ w = w' := by
  obtain ⟨b, off, rfl, hl, h1⟩ := hD.get hc
  have hc' : (c : Int) < (dn : Int) := by omega
  unfold maxLen at hdn
  go_enter Tryz.func45, Tryz.ntmps45
  go_wp2
  go_ret
  exact ⟨rfl, rfl⟩
end Go.Proofs.YtkdopjkdokgipaaGreatDoor
namespace Go.Proofs.YtkdopjkdokgipaaGreatDoor
open Go Go.RowKit
set_option linter.unusedVariables false
set_option linter.unusedSimpArgs false
section
variable {P : Program} {ops : Array Oper} {md : Region.Mode} {S : World → Prop} {Q : Exit → Act → World → Prop}
/-- what the end is owed -/
def endL (md : Region.Mode) (ops : Array Oper) (Q : Exit → Act → World → Prop) (listed : Array Bool) (a : Act) (w : World) : Prop := Region.ready md ops listed = [] ∧ Q .normal a w
theorem any_of_full {a : Act} {w : World} {listed : Array Bool} (f : Nat) (S : World → Prop) (hS : S w) (h : S w → headH P md ops Q S ops.size (endL md ops Q) f listed a w) : wpAny P md ops Q f listed a w := by
  have := any_of_headH (g := 0) (fun listed a' w' (hL : endL md ops Q listed a' w') => (show wpAny P md ops Q 0 listed a' w' from ⟨hL.1, hL.2⟩)) f listed a w (h hS)
  simpa using this
theorem headH_firstE {i : Nat} {oi : Oper} {v : Value} (hi : ops[i]? = some oi) (hsel : ∀ (j : Nat) (o : Oper) cs b, ops[j]? = some o → o.op ≠ .select cs b)
    (hQ : ∀ c a w, Q (.panic c) (a.put oi.dst v) w → Q (.panic c) a w) :
    ∀ (f : Nat) (listed : Array Bool) (a : Act) (w : World), HeadInv md ops ops.size listed →
      (∀ j oj, ops[j]? = some oj → j ≠ i → listed.getD j true = false → (∀ e ∈ oj.after, Region.binds md e = true → e.on ≠ i) → oi.apart ops oj = true) →
      i ∈ Region.ready md ops listed → YieldsIf P ops S oi v a → S w →
      headH P md ops Q S ops.size (endL md ops Q) f (listed.setIfInBounds i true) (a.put oi.dst v) w → headH P md ops Q S ops.size (endL md ops Q) (f + 1) listed a w := by
  have inside : ∀ (listed : Array Bool), ∀ j ∈ Region.ready md ops listed, j < ops.size := fun listed j hj => by
    obtain ⟨_, oj, hoj, _⟩ := mem_ready.1 hj
    exact (Array.getElem?_eq_some_iff.1 hoj).1
  have nonempty : ∀ (listed : Array Bool), i ∈ Region.ready md ops listed → Region.ready md ops listed ≠ [] := fun listed hr h => by rw [h] at hr; cases hr
  intro f
  induction f with
  | zero =>
    intro listed a w inv _ hr hy hS H
    refine ⟨nonempty _ hr, fun j hj => ⟨inside _ j hj, ?_⟩⟩
    by_cases hji : j = i
    · subst hji; exact hy.wpOp hi hS ⟨hS, H⟩
    · have h1 := ready_mono hj hji
      have h2 : Region.ready md ops (listed.setIfInBounds i true) = [] := H.1
      rw [h2] at h1
      cases h1
  | succ f ih =>
    intro listed a w inv hfree hr hy hS H
    refine ⟨nonempty _ hr, fun j hj => ?_⟩
    have hjn := inside _ j hj
    refine ⟨hjn, ?_⟩
    by_cases hji : j = i
    · subst hji; exact hy.wpOp hi hS ⟨hS, H⟩
    · obtain ⟨hjun, oj, hoj, hall⟩ := mem_ready.1 hj
      have hnot : ∀ e ∈ oj.after, Region.binds md e = true → e.on ≠ i := fun e he hb heq => by
        have h1 := hall e he hb
        rw [heq, getD_both (mem_ready.1 hr).1] at h1
        cases h1
      have h2 := wpOp_putIf hoj (hfree j oj hoj hji hjun hnot) (fun cs b => hsel i oi cs b hi) (fun cs b => hsel j oj cs b hoj) hQ hy (H.2 j (ready_mono hj hji)).2
      refine wpOp_mono (fun a' w' h3 => ⟨h3.2.1, ih (listed.setIfInBounds j true) a' w' (inv.set hj hjn) ?_ (ready_mono hr (Ne.symm hji)) h3.1 h3.2.1 ?_⟩) h2
      · intro k ok hk hki hun hno
        refine hfree k ok hk hki ?_ hno
        by_cases hjk : j = k
        · subst hjk; exact hjun
        · rw [getD_set_ne true hjk] at hun; exact hun
      · rw [Array.setIfInBounds_comm _ _ hji]
        exact h3.2.2
theorem headH_takeE {i : Nat} {oi : Oper} {v : Value} {f : Nat} {listed : Array Bool} {a : Act} {w : World} (hi : ops[i]? = some oi)
    (hB : (Region.noSelect ops && headInvB md ops ops.size listed && Region.free md ops listed i && (Region.ready md ops listed).contains i) = true)
    (hQ : ∀ c a w, Q (.panic c) (a.put oi.dst v) w → Q (.panic c) a w) (hy : YieldsIf P ops S oi v a) (hS : S w)
    (h : headH P md ops Q S ops.size (endL md ops Q) f (listed.setIfInBounds i true) (a.put oi.dst v) w) : headH P md ops Q S ops.size (endL md ops Q) (f + 1) listed a w := by
  simp only [Bool.and_eq_true] at hB
  obtain ⟨⟨⟨h1, h6⟩, h7⟩, h8⟩ := hB
  exact headH_firstE hi (Region.noSelect_spec h1) hQ f listed a w (headInv_of h6) (Region.free_spec hi h7) (by simpa using h8) hy hS h
end
end Go.Proofs.YtkdopjkdokgipaaGreatDoor
namespace Go.Proofs.YtkdopjkdokgipaaGreatDoor
open Go.RowKit
set_option linter.unusedVariables false
set_option linter.unusedSimpArgs false
theorem opS_take (d : Nat → Int) (L : List PT) {i : Nat} (h : i < L.length) : opS d (L.take (i + 1)) = opS d (L.take i) + ((L.getD i pt0).hi - (L.getD i pt0).lo) * d (L.getD i pt0).cell.toNat := by
  rw [take_succ_getD L h, opS_append]
  simp [opS]
theorem lenS_take {N : Int} (L : List PT) (h : ∀ p ∈ L, PtOk N p) (i : Nat) : lenS (L.take i) ≤ lenS L := by
  have h1 := lenS_append (L.take i) (L.drop i)
  rw [List.take_append_drop] at h1
  have h2 := lenS_nn (L.drop i) (fun p hp => h p (List.mem_of_mem_drop hp))
  omega
set_option maxRecDepth 100000 in
set_option maxHeartbeats 4000000 in
theorem opacity_any (v : VO) (r : RY) (hv : v.Ok) (hr : r.Ok) (ga : Option Addr) (gn gc : Nat) (g : Nat → Int) (db : Nat) (da : Option Addr) (dn dc : Nat) (d : Nat → Int) (w : World)
    (hg3 : grB v gn g = true) (hG : Ints w.heap.size w ga gn g) (hb : w.cell? ⟨db, 0, none⟩ = some (.slice da dn dc)) (hD : Ints w.heap.size w da dn d) (hdb : db < w.heap.size)
    (hdn : (dn : Int) = v.nx * v.ny * v.nz) (hd : ∀ c : Nat, (c : Int) < v.nx * v.ny * v.nz → 0 ≤ d c ∧ d c ≤ 10000) :
    Calls Tryz.prog 43 #[wkVal v r, .slice ga gn gc, .func (.func 45) #[] #[.pointer (some ⟨db, 0, none⟩)]] w fun e w' => ∃ m, IsM v r m ∧ e = .returned (.int .i64 (opS d (prN v r g (m + 1)))) ∧ Below w.heap.size w w' := by
  have HVR := Lib.hid (And.intro hv (And.intro hr hg3))
  have HG0 := Lib.hid hG
  have HDB := Lib.hid (And.intro hb (And.intro hD (And.intro hdb (And.intro hdn hd))))
  clear hg3 hG hb hD hdb hdn hd hv hr
  unfold wkVal
  go_enter Tryz.func43, Tryz.ntmps43
  go_upto_region 2 with (fail)
  have hb8 := rk_below w (.cells #[.int .i64 v.nx, .int .i64 v.ny, .int .i64 v.nz, .int .i64 v.size, .int .i64 r.x, .int .i64 r.dx, .int .i64 v.nx, .int .i64 r.y, .int .i64 r.dy, .int .i64 v.ny, .int .i64 r.z, .int .i64 r.dz, .int .i64 v.nz, .int .i64 (tkF r : Int)] 96)
  have HQ := Lib.hid (show WkAt v r w.heap.size (w.alloc (.cells #[.int .i64 v.nx, .int .i64 v.ny, .int .i64 v.nz, .int .i64 v.size, .int .i64 r.x, .int .i64 r.dx, .int .i64 v.nx, .int .i64 r.y, .int .i64 r.dy, .int .i64 v.ny, .int .i64 r.z, .int .i64 r.dz, .int .i64 v.nz, .int .i64 (tkF r : Int)] 96)) from heap_alloc_new w _)
  have HB := Lib.hid hb8
  clear hb8
  generalize World.alloc w _ = V3 at *
  generalize hq8 : w.heap.size = q8 at *
  refine wp_region_any (by kernel_rfl) ?_
  change wpAny _ _ _ _ _ _ _ (World.drew V3)
  have HB1 := Lib.hid (show Below q8 w V3.drew from HB.out.drew)
  have HQ1 := Lib.hid (show WkAt v r q8 V3.drew from HQ.out)
  clear HB HQ
  have HB := HB1
  have HQ := HQ1
  clear HB1 HQ1
  generalize World.drew V3 = Vd at *
  refine any_of_full 8 (fun w' => WkAt v r q8 w') HQ.out (fun hS => ?_)
  refine headH_takeE (i := 0) (v := ?_) rfl (by kernel_rfl) (fun _ _ _ h => h) (Or.inl ⟨by rfl, ?_⟩) (by assumption) ?_; rotate_left; (· intro w' hSw; (try dsimp only at hSw); obtain ⟨c0, c1, c2, c3, c4, c5, c6, c7, c8, c9, c10, c11, c12, c13⟩ := cr14 hSw; (try simp only [hng]); go_simp; (try with_reducible rfl)); (try simp only [hng]); (try dsimp only [Act.put]); (try simp only [hns])
  refine headH_takeE (i := 1) (v := ?_) rfl (by kernel_rfl) (fun _ _ _ h => h) (Or.inl ⟨by rfl, ?_⟩) (by assumption) ?_; rotate_left; (· intro w' hSw; (try dsimp only at hSw); obtain ⟨c0, c1, c2, c3, c4, c5, c6, c7, c8, c9, c10, c11, c12, c13⟩ := cr14 hSw; (try simp only [hng]); go_simp; (try with_reducible rfl)); (try simp only [hng]); (try dsimp only [Act.put]); (try simp only [hns])
  refine headH_takeE (i := 2) (v := ?_) rfl (by kernel_rfl) (fun _ _ _ h => h) (Or.inl ⟨by rfl, ?_⟩) (by assumption) ?_; rotate_left; (· intro w' hSw; (try dsimp only at hSw); obtain ⟨c0, c1, c2, c3, c4, c5, c6, c7, c8, c9, c10, c11, c12, c13⟩ := cr14 hSw; (try simp only [hng]); go_simp; (try with_reducible rfl)); (try simp only [hng]); (try dsimp only [Act.put]); (try simp only [hns])
  refine headH_takeE (i := 7) (v := ?_) rfl (by kernel_rfl) (fun _ _ _ h => h) (Or.inl ⟨by rfl, ?_⟩) (by assumption) ?_; rotate_left; (· intro w' hSw; (try dsimp only at hSw); obtain ⟨c0, c1, c2, c3, c4, c5, c6, c7, c8, c9, c10, c11, c12, c13⟩ := cr14 hSw; (try simp only [hng]); go_simp; (try with_reducible rfl)); (try simp only [hng]); (try dsimp only [Act.put]); (try simp only [hns])
  refine headH_all (rs := [3]) (by kernel_rfl) (by simp) (by kernel_rfl) ?_; intro i0 hi0; simp only [List.mem_cons, List.not_mem_nil, or_false] at hi0; subst hi0
  refine headH_op rfl (fun K hK => ?_); (try simp only [hng]); go_simp
  refine (under_any v r ga gn gc Vd).mono ?_
  rintro e W5 ⟨rfl, hw5, hg5, hb5⟩
  dsimp only
  have HQ5 := Lib.hid (HQ.out.step hb5)
  have HB5 := Lib.hid (HB.out.trans (hb5.mono (by have := HB.out.size; omega)))
  have HW5 := Lib.hid hw5
  have HGA := Lib.hid (show GrAt v g gn (Vd.heap.size + 1) W5 from ⟨(gr_iff.1 HVR.out.2.2).2, gr_ok HVR.out.1 HVR.out.2.2, ga, gc, hg5, ((HG0.out).below (hq8 ▸ HB5.out)).up (by have := HB5.out.size; omega)⟩)
  refine hK.out _ _ HQ5.out (fun hS => ?_)
  clear hK K hb5 hw5 hg5
  (try simp only [hng]); (try dsimp only [Act.put]); (try simp only [hns])
  refine headH_all (rs := [4]) (by kernel_rfl) (by simp) (by kernel_rfl) ?_; intro i0 hi0; simp only [List.mem_cons, List.not_mem_nil, or_false] at hi0; subst hi0
  refine headH_op rfl (fun K hK => ?_); (try simp only [hng]); go_simp
  have hb6 := rk_below W5 (.cells #[.func (.func 101) #[] #[.pointer (some ⟨Vd.heap.size + 1, 0, none⟩), .pointer (some ⟨Vd.heap.size, 0, none⟩)]] 150)
  have hn6 := heap_alloc_new W5 (.cells #[.func (.func 101) #[] #[.pointer (some ⟨Vd.heap.size + 1, 0, none⟩), .pointer (some ⟨Vd.heap.size, 0, none⟩)]] 150)
  have HC6 := Lib.hid (cell_of_row _ _ 0 _ _ _ hn6)
  have hl6 := (bl hn6)
  have HQ6 := Lib.hid (HQ5.out.step hb6)
  have HW6 := Lib.hid (HW5.out.step hb6)
  have HG6 := Lib.hid (HGA.out.step hb6)
  have HB6 := Lib.hid (HB5.out.trans (hb6.mono (by have := HB5.out.size; omega)))
  refine hK.out _ _ HQ6.out (fun hS => ?_)
  clear hK K hb6 hn6
  (try simp only [hng]); (try dsimp only [Act.put]); (try simp only [hns])
  generalize World.alloc W5 _ = W6 at *
  refine headH_all (rs := [5]) (by kernel_rfl) (by simp) (by kernel_rfl) ?_; intro i0 hi0; simp only [List.mem_cons, List.not_mem_nil, or_false] at hi0; subst hi0
  refine headH_op rfl (fun K hK => ?_); (try simp only [hng]); go_simp
  have hparts := rkparts_any v r HVR.out.1 HVR.out.2.1 g gn (Vd.heap.size + 1) Vd.heap.size W5.heap.size 1 W6 HW6.out HG6.out HC6.out hl6
  unfold wkVal at hparts
  refine hparts.mono ?_
  rintro e W7 ⟨m, pa, pc, hM, rfl, hown7, hb7⟩
  dsimp only
  have HQ7 := Lib.hid (HQ6.out.step hb7)
  have HB7 := Lib.hid (HB6.out.trans (hb7.mono (by have := HB6.out.size; omega)))
  have HM := Lib.hid hM
  have HP7 := Lib.hid (prow_of hown7)
  refine hK.out _ _ HQ7.out (fun hS => ?_)
  clear hK K hparts hown7 hb7
  have HN := Lib.hid (prN_ok HVR.out.1 HVR.out.2.1 (gr_mod HVR.out.1 HVR.out.2.2) (m + 1))
  have hl := prN_many HVR.out.1 HVR.out.2.1 (g := g) hM
  have HLS := Lib.hid (Int.le_trans (prN_lenS HVR.out.1 HVR.out.2.1 g m hM.1) (atF_low HVR.out.1 HVR.out.2.1 m).2)
  clear hM
  generalize hLL : prN v r g (m + 1) = L at *
  obtain ⟨n, hn⟩ : ∃ n, L.length = n := ⟨_, rfl⟩
  have HLN := Lib.hid hn
  have HLL := Lib.hid hLL
  rw [hn] at hl ⊢
  clear hn hLL
  (try simp only [hng]); (try dsimp only [Act.put]); (try simp only [hns])
  refine headH_all (rs := [6]) (by kernel_rfl) (by simp) (by kernel_rfl) ?_; intro i0 hi0; simp only [List.mem_cons, List.not_mem_nil, or_false] at hi0; subst hi0
  refine headH_op rfl (fun K hK => ?_); (try simp only [hng]); go_simp
  refine hK.out _ _ HQ7.out (fun hS => ?_)
  clear hK K
  (try simp only [hng]); (try dsimp only [Act.put]); (try simp only [hns])
  change endL _ _ _ _ _ _
  refine ⟨by kernel_rfl, ?_⟩
  clear HQ HQ5 HQ6 HQ7 HW5 HW6 HG6 HGA HC6 HB HB5 HB6 hl6
  go_wp2
  go_loopw [7, 17] (fun s7 s17 wr => ∃ i : Nat, i ≤ n ∧ s7 = .int .i64 (opS d (L.take i)) ∧ s17 = .int .i64 (i : Int) ∧ Hid (Below W7.heap.size W7 wr)) (fun _ s17 _ => n - (intOf s17).toNat)
  case atStart => exact ⟨0, Nat.zero_le _, by simp [opS], rfl, Lib.hid (Below.refl _ _)⟩
  case round =>
    obtain ⟨i, hi, rfl, rfl, HBW⟩ := hrel
    clear hS
    have HPW := Lib.hid (HP7.out.step HBW.out)
    have hw7 := HB7.out.size
    by_cases hlt : i < n
    · have hlt' : (i : Int) < (n : Int) := by omega
      rcases HPW.out with h | ⟨b, rfl, hbz, hcs⟩
      · have := HLN.out; omega
      obtain ⟨d0, d1, d2⟩ := hcs i (by have := HLN.out; omega)
      have HTK := Lib.hid (opS_take d L (i := i) (by have := HLN.out; omega))
      have hmem : L.getD i pt0 ∈ L := by
        rw [List.getD_eq_getElem?_getD, List.getElem?_eq_getElem (by have := HLN.out; omega)]
        exact List.getElem_mem _
      obtain ⟨⟨hk1, hk2⟩, hk3, hk4, hk5⟩ := HN.out (L.getD i pt0) hmem
      have hob := opS_bound HDB.out.2.2.2.2 (L.take i) (fun p hp => HN.out p (List.mem_of_mem_take hp))
      have hol := lenS_take L HN.out i
      have hol2 := HLS.out
      have HOD := Lib.hid (fun (W : World) (hbl : Below q8 w W) => opd_any db da dn dc d (L.getD i pt0).cell.toNat W ((hbl.cell (p := ⟨db, 0, none⟩) HDB.out.2.2.1).trans HDB.out.1) ((HDB.out.2.1.below hbl).up (by have := hbl.size; have := hq8; omega)) (by have := HDB.out.2.2.2.1; omega) (by have := HDB.out.2.2.2.1; have := HVR.out.1.cells; unfold maxLen; omega))
      obtain ⟨he1, he2⟩ := HDB.out.2.2.2.2 (L.getD i pt0).cell.toNat (by omega)
      have h6 : 0 ≤ ((L.getD i pt0).hi - (L.getD i pt0).lo) * d (L.getD i pt0).cell.toNat := Int.mul_nonneg (by omega) (by omega)
      have h7 : ((L.getD i pt0).hi - (L.getD i pt0).lo) * d (L.getD i pt0).cell.toNat ≤ ((L.getD i pt0).hi - (L.getD i pt0).lo) * 10000 := Int.mul_le_mul_of_nonneg_left (by omega) (by omega)
      generalize L.getD i pt0 = p at *
      obtain ⟨pcell, plo, phi⟩ := p
      dsimp only at d0 d1 d2 hk1 hk2 hk3 hk4 hk5 h6 h7 he1 he2 HTK HOD
      rw [Int.toNat_of_nonneg hk1] at HOD
      generalize d pcell.toNat = dv at *
      generalize hpr : (phi - plo) * dv = pr at *
      generalize hac : opS d (L.take i) = acc at *
      obtain ⟨ho1, ho2⟩ := hob
      have ho3 : acc ≤ 432000000000000 := by omega
      clear hcs hol hol2 ho2 hmem HPW hac he1 he2
      go_upto_region 5 with (fail)
      have hb1 := rk_below wr (.cells #[.int .i64 pcell, .int .i64 plo, .int .i64 phi] 161)
      have hn1 := heap_alloc_new wr (.cells #[.int .i64 pcell, .int .i64 plo, .int .i64 phi] 161)
      have HB0 := Lib.hid (HBW.out.trans (hb1.mono HBW.out.size))
      have HB1 := Lib.hid (HB7.out.trans (HB0.out.mono (by omega)))
      obtain ⟨p0, p1, p2⟩ := cr3 hn1
      have hl1 := (bl hn1)
      clear hb1 hn1 HBW d0 d1 d2
      generalize World.alloc wr _ = W2 at *
      (refine wp_region_calm (W2.heap.size) (by kernel_rfl) (by kernel_rfl) ?_; (repeat (first | go_big_quiet_step ((go_at_call 45; exact Calls.calm_same (HOD.out _ (HB1.out.trans ((Calm.below _).mono (by have := HB1.out.size; have := hq8; omega)))))) | quiet_step ((go_at_call 45; exact Calls.calm_same (HOD.out _ (HB1.out.trans ((Calm.below _).mono (by have := HB1.out.size; have := hq8; omega)))))))); refine wpQuiet_nil ?_; intro _ hw'; obtain ⟨xq, hw''⟩ := hw'; subst hw'')
      go_wp2
      have HF := Lib.hid (HB0.out.trans ((Calm.below xq).mono (by have := HB0.out.size; omega)))
      go_roundw
      case rel => exact ⟨i + 1, by omega, by rw [HTK.out], by go_num, HF⟩
      case measure => simp [intOf]; omega
    · obtain rfl : i = n := by omega
      have hlt' : ¬ (i : Int) < (i : Int) := by omega
      have HFI := Lib.hid (show opS d (L.take i) = opS d (prN v r g (m + 1)) from by rw [HLL.out, List.take_of_length_le (by have := HLN.out; omega)])
      rw [HFI.out]
      have HE := Lib.hid (HB7.out.trans (HBW.out.mono (by have := HB7.out.size; have := hq8; omega)))
      go_wp2
      go_ret
      exact ⟨m, HM.out, rfl, HE.out⟩
/-- densities as defined -/
def denB (n : Nat) (d : Nat → Int) : Bool := allUpto n fun i => inB (d i) 0 10000
theorem denB_iff {n : Nat} {d : Nat → Int} : denB n d = true ↔ ∀ i, i < n → 0 ≤ d i ∧ d i ≤ 10000 := by
  unfold denB
  rw [allUpto_iff]
  exact ⟨fun h i hi => inB_iff.1 (h i hi), fun h i hi => inB_iff.2 (h i hi)⟩
end Go.Proofs.YtkdopjkdokgipaaGreatDoor
namespace Go.Proofs.YtkdopjkdokgipaaGreatDoor
open Go.RowKit
set_option linter.unusedVariables false
set_option linter.unusedSimpArgs false
set_option maxRecDepth 100000 in
set_option maxHeartbeats 4000000 in
theorem Opacity_ok (v : VO) (r : RY) (ga : Option Addr) (gn gc : Nat) (g : Nat → Int) (da : Option Addr) (dn dc : Nat) (d : Nat → Int) (w : World) (hgn : gn ≤ maxLen) (hG : Ints w.heap.size w ga gn g) (hD : Ints w.heap.size w da dn d)
    (hok : rkOk v r gn g = true) (hdn : (dn : Int) = v.nx * v.ny * v.nz) (hd : denB dn d = true) :
    Calls Tryz.prog 13 #[v.val, .slice ga gn gc, .slice da dn dc, r.val] w fun e w' => ∃ m, IsM v r m ∧ e = .returned (.tuple #[.int .i64 (opS d (prN v r g (m + 1))), .int .i64 0]) ∧ Below w.heap.size w w' := by
  have HVO := Lib.hid (fun (W : World) => volume_any v W)
  have HRY := Lib.hid (fun (W : World) => ray_any r W)
  unfold rkOk at hok
  rw [Bool.and_eq_true, Bool.and_eq_true] at hok
  obtain ⟨⟨h1, h2⟩, h3⟩ := hok
  have hv := volB_iff.1 h1
  have hr := rayB_iff.1 h2
  have HGR := Lib.hid (fun (W : World) (hb : Below w.heap.size w W) => grounded_any v hv ga gn gc g W hgn ((hG.below hb).up hb.size))
  have HTH := Lib.hid (fun (W : World) => through_any v r W hr)
  have HVR := Lib.hid (And.intro hv (And.intro hr h3))
  have HG0 := Lib.hid hG
  have HD0 := Lib.hid hD
  have HDD := Lib.hid (And.intro hdn (denB_iff.1 hd))
  have hm1 := rk_mul_abs (x := v.nx) (y := v.ny) (K := 12) (M := 12) (by decide) (by decide) (by have := hv.x; omega) (by have := hv.y; omega)
  have hdl := hv.cells
  rw [h1] at HVO
  rw [h2] at HRY
  rw [h3] at HGR
  have HOP := Lib.hid (fun (W : World) (db : Nat) (hb : Below w.heap.size w W) (hc : W.cell? ⟨db, 0, none⟩ = some (.slice da dn dc)) (hl : db < W.heap.size) => opacity_any v r hv hr ga gn gc g db da dn dc d W h3 ((hG.below hb).up hb.size) hc ((hD.below hb).up hb.size) hl hdn (fun c hc => denB_iff.1 hd c (by omega)))
  unfold wkVal at HTH HOP
  unfold VO.val at HVO HGR HTH
  unfold RY.val at HRY HTH
  unfold VO.val RY.val
  generalize hxyz : v.nx * v.ny * v.nz = xyz at *
  generalize hxy : v.nx * v.ny = xy at *
  clear hG hD h1 h2 h3 hv hr hd
  go_enter Tryz.func13, Tryz.ntmps13
  go_upto_region 1 with (fail)
  (obtain ⟨hVb, e1, e2, e3⟩ := rk_three w (.cells #[.int .i64 v.nx, .int .i64 v.ny, .int .i64 v.nz, .int .i64 v.size] 23) (.cells #[.slice da dn dc] 24) (.cells #[.int .i64 r.x, .int .i64 r.y, .int .i64 r.z, .int .i64 r.dx, .int .i64 r.dy, .int .i64 r.dz] 26))
  have HB := Lib.hid hVb
  have HV := Lib.hid e1
  have HD := Lib.hid e2
  have HR := Lib.hid e3
  clear hVb e1 e2 e3
  generalize World.alloc (World.alloc (World.alloc w _) _) _ = V at *
  (try clear v0 v1 v2 v3 d0 s0 s1 s2 s3 s4 s5); obtain ⟨v0, v1, v2, v3⟩ := cr4 HV.out; have d0 := cell_of_row _ _ 0 _ _ _ HD.out; obtain ⟨s0, s1, s2, s3, s4, s5⟩ := cr6 HR.out
  go_upto_region 4 with (first | (go_at_call 39; refine (HVO.out _).mono ?_; rintro e w2 ⟨rfl, hb2⟩; (replace HB := Lib.hid (HB.out.trans ((hb2).mono HB.out.size)); replace HV := Lib.hid (bs HV.out hb2); replace HD := Lib.hid (bs HD.out hb2); replace HR := Lib.hid (bs HR.out hb2); clear hb2; (try clear v0 v1 v2 v3 d0 s0 s1 s2 s3 s4 s5); obtain ⟨v0, v1, v2, v3⟩ := cr4 HV.out; have d0 := cell_of_row _ _ 0 _ _ _ HD.out; obtain ⟨s0, s1, s2, s3, s4, s5⟩ := cr6 HR.out)) | (go_at_call 40; refine (HRY.out _).mono ?_; rintro e w2 ⟨rfl, hb2⟩; (replace HB := Lib.hid (HB.out.trans ((hb2).mono HB.out.size)); replace HV := Lib.hid (bs HV.out hb2); replace HD := Lib.hid (bs HD.out hb2); replace HR := Lib.hid (bs HR.out hb2); clear hb2; (try clear v0 v1 v2 v3 d0 s0 s1 s2 s3 s4 s5); obtain ⟨v0, v1, v2, v3⟩ := cr4 HV.out; have d0 := cell_of_row _ _ 0 _ _ _ HD.out; obtain ⟨s0, s1, s2, s3, s4, s5⟩ := cr6 HR.out)) | (go_at_call 41; refine (HGR.out _ HB.out).mono ?_; rintro e w2 ⟨rfl, hb2⟩; (replace HB := Lib.hid (HB.out.trans ((hb2).mono HB.out.size)); replace HV := Lib.hid (bs HV.out hb2); replace HD := Lib.hid (bs HD.out hb2); replace HR := Lib.hid (bs HR.out hb2); clear hb2; (try clear v0 v1 v2 v3 d0 s0 s1 s2 s3 s4 s5); obtain ⟨v0, v1, v2, v3⟩ := cr4 HV.out; have d0 := cell_of_row _ _ 0 _ _ _ HD.out; obtain ⟨s0, s1, s2, s3, s4, s5⟩ := cr6 HR.out)))
  rename World => V4
  go_loopw [41] (fun s wr => ∃ i : Nat, i ≤ dn ∧ s = .int .i64 (i : Int) ∧ wr = V4) (fun s _ => dn - (intOf s).toNat)
  case atStart => exact ⟨0, Nat.zero_le _, rfl, rfl⟩
  case round =>
    obtain ⟨i, hi, rfl, rfl⟩ := hrel
    have hdz := HDD.out.1
    by_cases hlt : i < dn
    · have hlt' : (i : Int) < (dn : Int) := by omega
      obtain ⟨gb, go, rfl, hgl, hgc⟩ := HD0.out.get hlt
      have hg1 := ((bcell HB.out).1 gb (go + i) hgl).trans hgc
      have hin := inB_iff.2 (HDD.out.2 i hlt)
      clear hgc
      go_wp2_with (go_at_call 42; refine (rkin_any _ _ _ _).mono ?_; rintro e w' ⟨rfl, rfl⟩; rw [hin])
      go_roundw
      case rel => exact ⟨i + 1, by omega, by go_num, trivial⟩
      case measure => simp [intOf]; omega
    · obtain rfl : i = dn := by omega
      have hlt' : ¬ (i : Int) < (i : Int) := by omega
      have hdlt := (bl HD.out)
      go_wp2_with (first | (go_at_call 44; refine (HTH.out _).mono ?_; rintro e w2 ⟨rfl, hb2⟩; (replace HB := Lib.hid (HB.out.trans ((hb2).mono HB.out.size)); replace HV := Lib.hid (bs HV.out hb2); replace HD := Lib.hid (bs HD.out hb2); replace HR := Lib.hid (bs HR.out hb2); clear hb2; (try clear v0 v1 v2 v3 d0 s0 s1 s2 s3 s4 s5); obtain ⟨v0, v1, v2, v3⟩ := cr4 HV.out; have d0 := cell_of_row _ _ 0 _ _ _ HD.out; obtain ⟨s0, s1, s2, s3, s4, s5⟩ := cr6 HR.out)) | (go_at_call 43; refine (HOP.out _ _ HB.out d0 (bl HD.out)).mono ?_; rintro e w9 ⟨m, hM, rfl, hb9⟩; have HM := Lib.hid hM; have HB9 := Lib.hid (HB.out.trans (hb9.mono HB.out.size)); clear hM hb9))
      refine bodyPost_ret (results_tmp2 (t := 8) (u := 9) rfl _ _ _) rfl ?_
      exact ⟨_, HM.out, rfl, HB9.out⟩
end Go.Proofs.YtkdopjkdokgipaaGreatDoor
namespace Go.Proofs.YtkdopjkdokgipaaGreatDoor
open Go.RowKit
set_option linter.unusedVariables false
set_option linter.unusedSimpArgs false
set_option maxHeartbeats 400000 in
theorem r6in_any (x a b : Int) (w : World) : Calls Tryz.prog 36 #[.int .i64 x, .int .i64 a, .int .i64 b] w fun e w' => e = .returned (.bool (inB x a b)) ∧ w = w' := by
  by_cases h1 : a ≤ x
  · by_cases h2 : x ≤ b
    · have HE := Lib.hid (inB_iff.2 ⟨h1, h2⟩)
      go_enter Tryz.func36, Tryz.ntmps36
      go_wp2
      go_ret
      exact ⟨ret_bool HE.out.symm, rfl⟩
    · have HE := Lib.hid (show inB x a b = false from by cases e : inB x a b; rfl; have := inB_iff.1 e; omega)
      go_enter Tryz.func36, Tryz.ntmps36
      go_wp2
      go_ret
      exact ⟨ret_bool HE.out.symm, rfl⟩
  · have HE := Lib.hid (show inB x a b = false from by cases e : inB x a b; rfl; have := inB_iff.1 e; omega)
    go_enter Tryz.func36, Tryz.ntmps36
    go_wp2
    go_ret
    exact ⟨ret_bool HE.out.symm, rfl⟩
set_option maxRecDepth 100000 in
set_option maxHeartbeats 1000000 in
theorem r6Volume_any (v : VO) (w : World) : Calls Tryz.prog 7 #[v.val] w fun e w' => e = .returned (.bool (volB v)) ∧ Below w.heap.size w w' := by
  have HV := Lib.hid (show volB v = ((((inB v.nx 1 12 && inB v.ny 1 12) && inB v.nz 1 12) && decide (v.nx * v.ny * v.nz ≤ 600)) && inB v.size 1 1000) from rfl)
  have HI := Lib.hid (show inB v.nx 1 12 = true → inB v.ny 1 12 = true → inB v.nz 1 12 = true → (-144 ≤ v.nx * v.ny ∧ v.nx * v.ny ≤ 144) ∧ (-1728 ≤ v.nx * v.ny * v.nz ∧ v.nx * v.ny * v.nz ≤ 1728) from fun h1 h2 h3 => by
    have h1 := inB_iff.1 h1
    have h2 := inB_iff.1 h2
    have h3 := inB_iff.1 h3
    have h4 := rk_mul_abs (x := v.nx) (y := v.ny) (K := 12) (M := 12) (by decide) (by decide) (by omega) (by omega)
    have h5 := rk_mul_abs (x := v.nx * v.ny) (y := v.nz) (K := 144) (M := 12) (by decide) (by decide) (by omega) (by omega)
    omega)
  generalize volB v = RES at *
  unfold VO.val
  obtain ⟨nx, ny, nz, size⟩ := v
  dsimp only at *
  go_enter Tryz.func7, Tryz.ntmps7
  go_upto_region 1 with (fail)
  have HB := Lib.hid (rk_below w (.cells #[.int .i64 nx, .int .i64 ny, .int .i64 nz, .int .i64 size] 23))
  have hn := heap_alloc_new w (.cells #[.int .i64 nx, .int .i64 ny, .int .i64 nz, .int .i64 size] 23)
  generalize World.alloc w _ = V at *
  obtain ⟨k0, k1, k2, k3⟩ := cr4 hn
  clear hn
  obtain ⟨b1, hb1⟩ : ∃ b, inB nx 1 12 = b := ⟨_, rfl⟩
  cases b1
  · rw [hb1] at HV
    simp only [Bool.false_and] at HV
    go_wp2_with (go_at_call 36; refine (r6in_any _ _ _ _).mono ?_; rintro e w' ⟨rfl, rfl⟩; rw [hb1])
    go_ret
    exact ⟨ret_bool HV.out.symm, HB.out⟩
  obtain ⟨b2, hb2⟩ : ∃ b, inB ny 1 12 = b := ⟨_, rfl⟩
  cases b2
  · rw [hb1, hb2] at HV
    simp only [Bool.false_and, Bool.true_and] at HV
    go_wp2_with (go_at_call 36; refine (r6in_any _ _ _ _).mono ?_; rintro e w' ⟨rfl, rfl⟩; first | rw [hb1] | rw [hb2])
    go_ret
    exact ⟨ret_bool HV.out.symm, HB.out⟩
  obtain ⟨b3, hb3⟩ : ∃ b, inB nz 1 12 = b := ⟨_, rfl⟩
  cases b3
  · rw [hb1, hb2, hb3] at HV
    simp only [Bool.false_and, Bool.true_and] at HV
    go_wp2_with (go_at_call 36; refine (r6in_any _ _ _ _).mono ?_; rintro e w' ⟨rfl, rfl⟩; first | rw [hb1] | rw [hb2] | rw [hb3])
    go_ret
    exact ⟨ret_bool HV.out.symm, HB.out⟩
  obtain ⟨⟨m1, m2⟩, m3, m4⟩ := HI.out hb1 hb2 hb3
  rw [hb1, hb2, hb3] at HV
  simp only [Bool.true_and] at HV
  clear HI
  generalize hp : nx * ny = pq at *
  generalize hq : pq * nz = pqr at *
  by_cases h6 : pqr ≤ 600
  · rw [decide_eq_true h6, Bool.true_and] at HV
    generalize hb5 : inB size 1 1000 = b5 at *
    go_wp2_with (go_at_call 36; refine (r6in_any _ _ _ _).mono ?_; rintro e w' ⟨rfl, rfl⟩; first | rw [hb1] | rw [hb2] | rw [hb3] | rw [hb5])
    go_ret
    exact ⟨ret_bool HV.out.symm, HB.out⟩
  · rw [decide_eq_false h6, Bool.false_and] at HV
    go_wp2_with (go_at_call 36; refine (r6in_any _ _ _ _).mono ?_; rintro e w' ⟨rfl, rfl⟩; first | rw [hb1] | rw [hb2] | rw [hb3])
    go_ret
    exact ⟨ret_bool HV.out.symm, HB.out⟩
set_option maxRecDepth 100000 in
set_option maxHeartbeats 2000000 in
theorem r6Ray_any (r : RY) (w : World) : Calls Tryz.prog 8 #[r.val] w fun e w' => e = .returned (.bool (rayB r)) ∧ Below w.heap.size w w' := by
  have HV := Lib.hid (show rayB r = (((inB r.x (-100000) 100000 && inB r.y (-100000) 100000) && inB r.z (-100000) 100000) && (((inB r.dx (-60) 60 && inB r.dy (-60) 60) && inB r.dz (-60) 60) && ((r.dx != 0 || r.dy != 0) || r.dz != 0))) from rfl)
  generalize rayB r = RES at *
  unfold RY.val
  obtain ⟨x, y, z, dx, dy, dz⟩ := r
  dsimp only at *
  go_enter Tryz.func8, Tryz.ntmps8
  go_upto_region 1 with (fail)
  have HB := Lib.hid (rk_below w (.cells #[.int .i64 x, .int .i64 y, .int .i64 z, .int .i64 dx, .int .i64 dy, .int .i64 dz] 26))
  have hn := heap_alloc_new w (.cells #[.int .i64 x, .int .i64 y, .int .i64 z, .int .i64 dx, .int .i64 dy, .int .i64 dz] 26)
  generalize World.alloc w _ = V at *
  obtain ⟨k0, k1, k2, k3, k4, k5⟩ := cr6 hn
  clear hn
  obtain ⟨b1, hb1⟩ : ∃ b, inB x (-100000) 100000 = b := ⟨_, rfl⟩
  cases b1
  · have HE := Lib.hid (show RES = false from by rw [HV.out, hb1]; simp)
    go_wp2_with (go_at_call 36; refine (r6in_any _ _ _ _).mono ?_; rintro e w' ⟨rfl, rfl⟩; first | rw [hb1])
    go_ret
    exact ⟨ret_bool HE.out.symm, HB.out⟩
  obtain ⟨b2, hb2⟩ : ∃ b, inB y (-100000) 100000 = b := ⟨_, rfl⟩
  cases b2
  · have HE := Lib.hid (show RES = false from by rw [HV.out, hb1, hb2]; simp)
    go_wp2_with (go_at_call 36; refine (r6in_any _ _ _ _).mono ?_; rintro e w' ⟨rfl, rfl⟩; first | rw [hb1] | rw [hb2])
    go_ret
    exact ⟨ret_bool HE.out.symm, HB.out⟩
  obtain ⟨b3, hb3⟩ : ∃ b, inB z (-100000) 100000 = b := ⟨_, rfl⟩
  cases b3
  · have HE := Lib.hid (show RES = false from by rw [HV.out, hb1, hb2, hb3]; simp)
    go_wp2_with (go_at_call 36; refine (r6in_any _ _ _ _).mono ?_; rintro e w' ⟨rfl, rfl⟩; first | rw [hb1] | rw [hb2] | rw [hb3])
    go_ret
    exact ⟨ret_bool HE.out.symm, HB.out⟩
  obtain ⟨b4, hb4⟩ : ∃ b, inB dx (-60) 60 = b := ⟨_, rfl⟩
  cases b4
  · have HE := Lib.hid (show RES = false from by rw [HV.out, hb1, hb2, hb3, hb4]; simp)
    go_wp2_with (go_at_call 36; refine (r6in_any _ _ _ _).mono ?_; rintro e w' ⟨rfl, rfl⟩; first | rw [hb1] | rw [hb2] | rw [hb3] | rw [hb4])
    go_ret
    exact ⟨ret_bool HE.out.symm, HB.out⟩
  obtain ⟨b5, hb5⟩ : ∃ b, inB dy (-60) 60 = b := ⟨_, rfl⟩
  cases b5
  · have HE := Lib.hid (show RES = false from by rw [HV.out, hb1, hb2, hb3, hb4, hb5]; simp)
    go_wp2_with (go_at_call 36; refine (r6in_any _ _ _ _).mono ?_; rintro e w' ⟨rfl, rfl⟩; first | rw [hb1] | rw [hb2] | rw [hb3] | rw [hb4] | rw [hb5])
    go_ret
    exact ⟨ret_bool HE.out.symm, HB.out⟩
  obtain ⟨b6, hb6⟩ : ∃ b, inB dz (-60) 60 = b := ⟨_, rfl⟩
  cases b6
  · have HE := Lib.hid (show RES = false from by rw [HV.out, hb1, hb2, hb3, hb4, hb5, hb6]; simp)
    go_wp2_with (go_at_call 36; refine (r6in_any _ _ _ _).mono ?_; rintro e w' ⟨rfl, rfl⟩; first | rw [hb1] | rw [hb2] | rw [hb3] | rw [hb4] | rw [hb5] | rw [hb6])
    go_ret
    exact ⟨ret_bool HE.out.symm, HB.out⟩
  have HT := Lib.hid (show RES = ((dx != 0 || dy != 0) || dz != 0) from by rw [HV.out, hb1, hb2, hb3, hb4, hb5, hb6]; simp)
  by_cases e4 : dx = 0
  · by_cases e5 : dy = 0
    · have HE := Lib.hid (show RES = (dz != 0) from by rw [HT.out, e4, e5]; simp)
      subst e4 e5
      go_wp2_with (go_at_call 36; refine (r6in_any _ _ _ _).mono ?_; rintro e w' ⟨rfl, rfl⟩; first | rw [hb1] | rw [hb2] | rw [hb3] | rw [hb4] | rw [hb5] | rw [hb6])
      go_ret
      exact ⟨ret_bool HE.out.symm, HB.out⟩
    · have HE := Lib.hid (show RES = true from by rw [HT.out]; simp [e5])
      subst e4
      go_wp2_with (go_at_call 36; refine (r6in_any _ _ _ _).mono ?_; rintro e w' ⟨rfl, rfl⟩; first | rw [hb1] | rw [hb2] | rw [hb3] | rw [hb4] | rw [hb5] | rw [hb6])
      go_ret
      exact ⟨ret_bool HE.out.symm, HB.out⟩
  · have HE := Lib.hid (show RES = true from by rw [HT.out]; simp [e4])
    go_wp2_with (go_at_call 36; refine (r6in_any _ _ _ _).mono ?_; rintro e w' ⟨rfl, rfl⟩; first | rw [hb1] | rw [hb2] | rw [hb3] | rw [hb4] | rw [hb5] | rw [hb6])
    go_ret
    exact ⟨ret_bool HE.out.symm, HB.out⟩
set_option maxRecDepth 100000 in
set_option maxHeartbeats 1000000 in
theorem r6Cells_any (v : VO) (hv : v.Ok) (w : World) : Calls Tryz.prog 15 #[v.val] w fun e w' => e = .returned (.int .i64 (v.nx * v.ny * v.nz)) ∧ Below w.heap.size w w' := by
  have hm1 := rk_mul_abs (x := v.nx) (y := v.ny) (K := 12) (M := 12) (by decide) (by decide) (by have := hv.x; omega) (by have := hv.y; omega)
  have hm2 := rk_mul_abs (x := v.nx * v.ny) (y := v.nz) (K := 144) (M := 12) (by decide) (by decide) (by omega) (by have := hv.z; omega)
  unfold VO.val
  obtain ⟨nx, ny, nz, size⟩ := v
  dsimp only at *
  clear hv
  generalize hxy : nx * ny = xy at *
  generalize hxyz : xy * nz = xyz at *
  go_enter Tryz.func15, Tryz.ntmps15
  go_upto_region 1 with (fail)
  have HB := Lib.hid (rk_below w (.cells #[.int .i64 nx, .int .i64 ny, .int .i64 nz, .int .i64 size] 23))
  have hn := heap_alloc_new w (.cells #[.int .i64 nx, .int .i64 ny, .int .i64 nz, .int .i64 size] 23)
  generalize World.alloc w _ = V at *
  obtain ⟨k0, k1, k2⟩ := cr3 hn
  clear hn
  go_wp2
  go_ret
  exact ⟨rfl, HB.out⟩
set_option maxRecDepth 100000 in
set_option maxHeartbeats 1000000 in
theorem r6Columns_any (v : VO) (hv : v.Ok) (w : World) : Calls Tryz.prog 37 #[v.val] w fun e w' => e = .returned (.int .i64 (v.nx * v.ny)) ∧ Below w.heap.size w w' := by
  have hm1 := rk_mul_abs (x := v.nx) (y := v.ny) (K := 12) (M := 12) (by decide) (by decide) (by have := hv.x; omega) (by have := hv.y; omega)
  unfold VO.val
  obtain ⟨nx, ny, nz, size⟩ := v
  dsimp only at *
  clear hv
  generalize hxy : nx * ny = xy at *
  go_enter Tryz.func37, Tryz.ntmps37
  go_upto_region 1 with (fail)
  have HB := Lib.hid (rk_below w (.cells #[.int .i64 nx, .int .i64 ny, .int .i64 nz, .int .i64 size] 23))
  have hn := heap_alloc_new w (.cells #[.int .i64 nx, .int .i64 ny, .int .i64 nz, .int .i64 size] 23)
  generalize World.alloc w _ = V at *
  obtain ⟨k0, k1⟩ := cr2 hn
  clear hn
  go_wp2
  go_ret
  exact ⟨rfl, HB.out⟩
set_option maxRecDepth 100000 in
set_option maxHeartbeats 2000000 in
theorem r6Ground_any (v : VO) (hv : v.Ok) (ga : Option Addr) (n gc : Nat) (g : Nat → Int) (w : World) (hn : n ≤ maxLen) (hG : Ints w.heap.size w ga n g) :
    Calls Tryz.prog 9 #[v.val, .slice ga n gc] w fun e w' => e = .returned (.bool (grB v n g)) ∧ Below w.heap.size w w' := by
  have HG := Lib.hid hG
  have HNO := Lib.hid (fun (i : Nat) (hi : i < n) (h : inB (g i) 0 (v.nz * v.size) = false) => show grB v n g = false from by unfold grB; rw [allUpto_false hi h, Bool.false_and])
  have HYES := Lib.hid (fun (h : ∀ i, i < n → inB (g i) 0 (v.nz * v.size) = true) => show grB v n g = ((n : Int) == v.nx * v.ny) from by unfold grB; rw [allUpto_true h, Bool.true_and])
  have hm1 := rk_mul_abs (x := v.nz) (y := v.size) (K := 12) (M := 1000) (by decide) (by decide) (by have := hv.z; omega) (by have := hv.size; omega)
  have HCO := Lib.hid (fun (W : World) => r6Columns_any v hv W)
  unfold maxLen at hn
  generalize grB v n g = RES at *
  unfold VO.val at HCO
  unfold VO.val
  generalize hcnt : v.nx * v.ny = cnt at *
  obtain ⟨nx, ny, nz, size⟩ := v
  dsimp only at *
  generalize hzs : nz * size = zs at *
  clear hG hv
  go_enter Tryz.func9, Tryz.ntmps9
  go_upto_region 1 with (fail)
  have HB := Lib.hid (rk_below w (.cells #[.int .i64 nx, .int .i64 ny, .int .i64 nz, .int .i64 size] 23))
  have hnn := heap_alloc_new w (.cells #[.int .i64 nx, .int .i64 ny, .int .i64 nz, .int .i64 size] 23)
  have hsz : (w.alloc (.cells #[.int .i64 nx, .int .i64 ny, .int .i64 nz, .int .i64 size] 23)).heap.size = w.heap.size + 1 := by simp
  generalize World.alloc w _ = V at *
  have HL := Lib.hid hnn
  clear hnn hsz
  go_wp2
  go_loopw [5] (fun s wr => ∃ i : Nat, i ≤ n ∧ s = .int .i64 (i : Int) ∧ Hid (∀ j, j < i → inB (g j) 0 zs = true) ∧ Hid (Below V.heap.size V wr)) (fun s _ => n - (intOf s).toNat)
  case atStart => exact ⟨0, Nat.zero_le _, rfl, Lib.hid (fun j hj => by omega), Lib.hid (Below.refl _ _)⟩
  case round =>
    obtain ⟨i, hi, rfl, HA, HW⟩ := hrel
    have HLr := Lib.hid ((HW.out.block _ (bl HL.out)).trans HL.out)
    have HBr := Lib.hid (HB.out.trans (HW.out.mono HB.out.size))
    obtain ⟨k0, k1, k2, k3⟩ := cr4 HLr.out
    have hVlt := Nat.lt_of_lt_of_le (bl HL.out) HW.out.size
    by_cases hlt : i < n
    · have hlt' : (i : Int) < (n : Int) := by omega
      obtain ⟨gb, go, rfl, hgl, hgc⟩ := HG.out.get hlt
      have hg1 := ((bcell HBr.out).1 gb (go + i) hgl).trans hgc
      have hgl2 : gb < wr.heap.size := by have := HBr.out.size; omega
      clear hgc
      cases hb : inB (g i) 0 zs
      · have HE := Lib.hid (HNO.out i hlt hb)
        go_upto_region 4 with (fail)
        (refine wp_region_calm (wr.heap.size) (by kernel_rfl) (by kernel_rfl) ?_; (repeat (first | go_big_quiet_step ((go_at_call 36; exact Calls.calm_same (r6in_any _ _ _ _))) | quiet_step ((go_at_call 36; exact Calls.calm_same (r6in_any _ _ _ _))))); refine wpQuiet_nil ?_; intro _ hw'; obtain ⟨xq, hw''⟩ := hw'; subst hw'')
        rw [hb]
        go_wp2
        go_ret
        exact ⟨ret_bool HE.out.symm, HBr.out.trans ((Calm.below _).mono HBr.out.size)⟩
      · have HA2 := Lib.hid (fun j (hj : j < i + 1) => show inB (g j) 0 zs = true from (by by_cases e : j = i; (subst e; exact hb); exact HA.out j (by omega)))
        go_upto_region 4 with (fail)
        (refine wp_region_calm (wr.heap.size) (by kernel_rfl) (by kernel_rfl) ?_; (repeat (first | go_big_quiet_step ((go_at_call 36; exact Calls.calm_same (r6in_any _ _ _ _))) | quiet_step ((go_at_call 36; exact Calls.calm_same (r6in_any _ _ _ _))))); refine wpQuiet_nil ?_; intro _ hw'; obtain ⟨xq, hw''⟩ := hw'; subst hw'')
        rw [hb]
        go_wp2
        have HW2 := Lib.hid (HW.out.trans ((Calm.below xq).mono HW.out.size))
        go_roundw
        case rel => exact ⟨i + 1, by omega, by go_num, HA2, HW2⟩
        case measure => simp [intOf]; omega
    · obtain rfl : i = n := by omega
      have hlt' : ¬ (i : Int) < (i : Int) := by omega
      have HE := Lib.hid (HYES.out HA.out)
      go_wp2_with (go_at_call 37; refine (HCO.out _).mono ?_; rintro e w2 ⟨rfl, hb2⟩; have HBX := Lib.hid (HBr.out.trans (hb2.mono HBr.out.size)); clear hb2)
      go_ret
      exact ⟨ret_bool HE.out.symm, HBX.out⟩
set_option maxRecDepth 100000 in
set_option maxHeartbeats 2000000 in
theorem r6Dense_any (v : VO) (hv : v.Ok) (ga : Option Addr) (n gc : Nat) (g : Nat → Int) (w : World) (hn : n ≤ maxLen) (hG : Ints w.heap.size w ga n g) :
    Calls Tryz.prog 12 #[v.val, .slice ga n gc] w fun e w' => e = .returned (.bool ((denB n g && ((n : Int) == v.nx * v.ny * v.nz)))) ∧ Below w.heap.size w w' := by
  have HG := Lib.hid hG
  have HNO := Lib.hid (fun (i : Nat) (hi : i < n) (h : inB (g i) 0 10000 = false) => show (denB n g && ((n : Int) == v.nx * v.ny * v.nz)) = false from by unfold denB; rw [allUpto_false hi h, Bool.false_and])
  have HYES := Lib.hid (fun (h : ∀ i, i < n → inB (g i) 0 10000 = true) => show (denB n g && ((n : Int) == v.nx * v.ny * v.nz)) = ((n : Int) == v.nx * v.ny * v.nz) from by unfold denB; rw [allUpto_true h, Bool.true_and])
  have hm1 := rk_mul_abs (x := v.nz) (y := v.size) (K := 12) (M := 1000) (by decide) (by decide) (by have := hv.z; omega) (by have := hv.size; omega)
  have HCO := Lib.hid (fun (W : World) => r6Cells_any v hv W)
  unfold maxLen at hn
  generalize (denB n g && ((n : Int) == v.nx * v.ny * v.nz)) = RES at *
  unfold VO.val at HCO
  unfold VO.val
  generalize hcnt : v.nx * v.ny * v.nz = cnt at *
  obtain ⟨nx, ny, nz, size⟩ := v
  dsimp only at *
  generalize hzs : nz * size = zs at *
  clear hG hv
  go_enter Tryz.func12, Tryz.ntmps12
  go_upto_region 1 with (fail)
  have HB := Lib.hid (rk_below w (.cells #[.int .i64 nx, .int .i64 ny, .int .i64 nz, .int .i64 size] 23))
  have hnn := heap_alloc_new w (.cells #[.int .i64 nx, .int .i64 ny, .int .i64 nz, .int .i64 size] 23)
  have hsz : (w.alloc (.cells #[.int .i64 nx, .int .i64 ny, .int .i64 nz, .int .i64 size] 23)).heap.size = w.heap.size + 1 := by simp
  generalize World.alloc w _ = V at *
  have HL := Lib.hid hnn
  clear hnn hsz
  go_wp2
  go_loopw [5] (fun s wr => ∃ i : Nat, i ≤ n ∧ s = .int .i64 (i : Int) ∧ Hid (∀ j, j < i → inB (g j) 0 10000 = true) ∧ Hid (Below V.heap.size V wr)) (fun s _ => n - (intOf s).toNat)
  case atStart => exact ⟨0, Nat.zero_le _, rfl, Lib.hid (fun j hj => by omega), Lib.hid (Below.refl _ _)⟩
  case round =>
    obtain ⟨i, hi, rfl, HA, HW⟩ := hrel
    have HLr := Lib.hid ((HW.out.block _ (bl HL.out)).trans HL.out)
    have HBr := Lib.hid (HB.out.trans (HW.out.mono HB.out.size))
    obtain ⟨k0, k1, k2, k3⟩ := cr4 HLr.out
    have hVlt := Nat.lt_of_lt_of_le (bl HL.out) HW.out.size
    by_cases hlt : i < n
    · have hlt' : (i : Int) < (n : Int) := by omega
      obtain ⟨gb, go, rfl, hgl, hgc⟩ := HG.out.get hlt
      have hg1 := ((bcell HBr.out).1 gb (go + i) hgl).trans hgc
      have hgl2 : gb < wr.heap.size := by have := HBr.out.size; omega
      clear hgc
      cases hb : inB (g i) 0 10000
      · have HE := Lib.hid (HNO.out i hlt hb)
        go_wp2_with (go_at_call 36; refine (r6in_any _ _ _ _).mono ?_; rintro e w' ⟨rfl, rfl⟩; rw [hb])
        go_ret
        exact ⟨ret_bool HE.out.symm, HBr.out⟩
      · have HA2 := Lib.hid (fun j (hj : j < i + 1) => show inB (g j) 0 10000 = true from (by by_cases e : j = i; (subst e; exact hb); exact HA.out j (by omega)))
        go_wp2_with (go_at_call 36; refine (r6in_any _ _ _ _).mono ?_; rintro e w' ⟨rfl, rfl⟩; rw [hb])
        go_roundw
        case rel => exact ⟨i + 1, by omega, by go_num, HA2, HW⟩
        case measure => simp [intOf]; omega
    · obtain rfl : i = n := by omega
      have hlt' : ¬ (i : Int) < (i : Int) := by omega
      have HE := Lib.hid (HYES.out HA.out)
      go_wp2_with (go_at_call 15; refine (HCO.out _).mono ?_; rintro e w2 ⟨rfl, hb2⟩; have HBX := Lib.hid (HBr.out.trans (hb2.mono HBr.out.size)); clear hb2)
      go_ret
      exact ⟨ret_bool HE.out.symm, HBX.out⟩
end Go.Proofs.YtkdopjkdokgipaaGreatDoor
namespace Go.Proofs.YtkdopjkdokgipaaGreatDoor
open Go.RowKit Go.Shelf
set_option linter.unusedVariables false
set_option linter.unusedSimpArgs false
/-- a slice of rays -/
def Rays (B : Nat) (w : World) (a : Option Addr) (n : Nat) (rs : Nat → RY) : Prop :=
  n ≤ maxLen ∧ (n = 0 ∨ ∃ b off, a = some ⟨b, off, none⟩ ∧ b < B ∧ ∀ i, i < n → w.cell? ⟨b, off + i * 6, none⟩ = some (.int .i64 (rs i).x) ∧ w.cell? ⟨b, off + i * 6 + 1, none⟩ = some (.int .i64 (rs i).y) ∧ w.cell? ⟨b, off + i * 6 + 2, none⟩ = some (.int .i64 (rs i).z) ∧ w.cell? ⟨b, off + i * 6 + 3, none⟩ = some (.int .i64 (rs i).dx) ∧ w.cell? ⟨b, off + i * 6 + 4, none⟩ = some (.int .i64 (rs i).dy) ∧ w.cell? ⟨b, off + i * 6 + 5, none⟩ = some (.int .i64 (rs i).dz))
theorem Rays.below {B : Nat} {w w' : World} {a : Option Addr} {n : Nat} {rs : Nat → RY} (h : Rays B w a n rs) (hb : Below B w w') : Rays B w' a n rs := by
  refine ⟨h.1, ?_⟩
  rcases h.2 with h | ⟨b, off, ha, hB, hc⟩
  · exact .inl h
  · have c := (bcell hb).1
    exact .inr ⟨b, off, ha, hB, fun i hi => by
      obtain ⟨h0, h1, h2, h3, h4, h5⟩ := hc i hi
      exact ⟨(c _ _ hB).trans h0, (c _ _ hB).trans h1, (c _ _ hB).trans h2, (c _ _ hB).trans h3, (c _ _ hB).trans h4, (c _ _ hB).trans h5⟩⟩
theorem Rays.get {B : Nat} {w : World} {a : Option Addr} {n : Nat} {rs : Nat → RY} (h : Rays B w a n rs) {i : Nat} (hi : i < n) : ∃ b off, a = some ⟨b, off, none⟩ ∧ b < B ∧ (w.cell? ⟨b, off + i * 6, none⟩ = some (.int .i64 (rs i).x) ∧ w.cell? ⟨b, off + i * 6 + 1, none⟩ = some (.int .i64 (rs i).y) ∧ w.cell? ⟨b, off + i * 6 + 2, none⟩ = some (.int .i64 (rs i).z) ∧ w.cell? ⟨b, off + i * 6 + 3, none⟩ = some (.int .i64 (rs i).dx) ∧ w.cell? ⟨b, off + i * 6 + 4, none⟩ = some (.int .i64 (rs i).dy) ∧ w.cell? ⟨b, off + i * 6 + 5, none⟩ = some (.int .i64 (rs i).dz)) := by
  rcases h.2 with h | ⟨b, off, ha, hB, hc⟩
  · omega
  · exact ⟨b, off, ha, hB, hc i hi⟩
/-! ### sums -/
def chS (d : Nat → Int) : List CH → Int
  | [] => 0
  | x :: t => x.2 * d x.1.toNat + chS d t
theorem chS_append (d : Nat → Int) : ∀ (a b : List CH), chS d (a ++ b) = chS d a + chS d b
  | [], b => by simp [chS]
  | p :: t, b => by rw [List.cons_append, chS, chS, chS_append d t b]; omega
theorem chS_perm (d : Nat → Int) {a b : List CH} (h : a.Perm b) : chS d a = chS d b := by
  induction h with
  | nil => rfl
  | cons x _ ih => rw [chS, chS, ih]
  | swap x y l => simp only [chS]; omega
  | trans _ _ ih1 ih2 => exact ih1.trans ih2
theorem chS_chs (d : Nat → Int) : ∀ (L : List PT), chS d (chs L) = opS d L
  | [] => rfl
  | p :: t => by
    have := chS_chs d t
    show (p.hi - p.lo) * d p.cell.toNat + chS d (chs t) = _
    rw [this, opS]
theorem sumN_take (d : Nat → Int) (S : List CH) : ∀ i, i ≤ S.length → sumN (fun k => (S.getD k ch0).2 * d (S.getD k ch0).1.toNat) i = chS d (S.take i)
  | 0, _ => by simp [sumN, chS]
  | i + 1, h => by
    rw [sumN, sumN_take d S i (by omega), ch_take S (by omega), chS_append]
    simp [chS]
/-- a beam as Shine hands it back -/
def bmS (ca : Option Addr) (cc : Nat) (wa : Option Addr) (wc : Nat) (lo hi : Int) (S : List CH) : BM := ⟨ca, S.length, cc, wa, S.length, wc, lo, hi, fun k => (S.getD k ch0).1, fun k => (S.getD k ch0).2⟩
theorem ofN_bmS {ca : Option Addr} {cc : Nat} {wa : Option Addr} {wc : Nat} {lo hi : Int} {S : List CH} {L : List PT} (h : S.Perm (chs L)) (d : Nat → Int) : ofN (bmS ca cc wa wc lo hi S) d = opS d L := by
  show sumN (fun k => (S.getD k ch0).2 * d (S.getD k ch0).1.toNat) S.length = _
  rw [sumN_take d S _ (Nat.le_refl _), List.take_of_length_le (Nat.le_refl _), chS_perm d h, chS_chs]
/-! ### the image -/
def se0 : BM := ⟨none, 0, 0, none, 0, 0, 0, 0, fun _ => 0, fun _ => 0⟩
def seC1 (p : BM) : List Value := [.slice p.ca p.cn p.cc, .slice p.wa p.wn p.wc, .int .i64 p.lo, .int .i64 p.hi]
def seC : List BM → List Value
  | [] => []
  | x :: t => seC1 x ++ seC t
theorem seC_append : ∀ (a b : List BM), seC (a ++ b) = seC a ++ seC b
  | [], b => rfl
  | h :: t, b => by rw [List.cons_append, seC, seC, seC_append t b, List.append_assoc]
theorem seC_one (x : BM) : seC [x] = seC1 x := by simp [seC]
theorem seC_get : ∀ (l : List BM) (i r : Nat) (z : BM), i < l.length → r < 4 → (seC l)[i * 4 + r]? = (seC1 (l.getD i z))[r]?
  | [], i, r, z, h, _ => by simp at h
  | h :: t, 0, r, z, _, hr => by
    rw [seC, List.getElem?_append_left (by simp [seC1]; omega)]
    simp
  | h :: t, i + 1, r, z, hi, hr => by
    have e : (i + 1) * 4 + r - 4 = i * 4 + r := by omega
    rw [seC, List.getElem?_append_right (by simp [seC1]; omega)]
    have : (seC1 h).length = 4 := rfl
    rw [this, e, seC_get t i r z (by simpa using hi) hr]
    simp
theorem se_info : (Tryz.prog.info? 31).map (fun i => (i.zero, i.size, i.bytes)) = some (some (.agg #[.slice none 0 0, .slice none 0 0, .int .i64 0, .int .i64 0]), 4, 64) := by kernel_rfl
theorem se_one {p : BM} : ∀ u ∈ seC1 p, u.oneCell' = true := by
  intro u hu
  simp [seC1] at hu
  rcases hu with rfl | rfl | rfl | rfl <;> rfl
/-- a beam whose lists lie in blocks of their own -/
def SeBm (base : Nat) (W : World) (p : BM) : Prop := ∃ (S : List CH) (ca : Option Addr) (cc : Nat) (wa : Option Addr) (wc : Nat) (lo hi : Int), p = bmS ca cc wa wc lo hi S ∧ S.length ≤ maxLen ∧ W.ownsRow base 3 1 (.slice ca S.length cc) S.length (clC S) ∧ W.ownsRow base 3 1 (.slice wa S.length wc) S.length (wtC S)
structure SnT (mb : Nat) (w : World) (sa : Option Addr) (n sc : Nat) (L : List BM) (W : World) : Prop where
  bel : Below mb w W
  row : ∃ oa oc, W.heap[mb]? = some (.cells #[.slice sa n sc, .slice oa L.length oc] 50) ∧ W.ownsRow (mb + 1) 31 4 (.slice oa L.length oc) L.length (seC L)
  mem : ∀ p ∈ L, SeBm (mb + 1) W p
theorem SeBm.below {base : Nat} {W W' : World} {p : BM} (h : SeBm base W p) (hb : Below W.heap.size W W') : SeBm base W' p := by
  obtain ⟨S, ca, cc, wa, wc, lo, hi, h1, h0, h2, h3⟩ := h
  exact ⟨S, ca, cc, wa, wc, lo, hi, h1, h0, own_below h2 hb, own_below h3 hb⟩
theorem SnT.step {mb : Nat} {w : World} {sa : Option Addr} {n sc : Nat} {L : List BM} {W W' : World} (h : SnT mb w sa n sc L W) (hb : Below W.heap.size W W') : SnT mb w sa n sc L W' := by
  obtain ⟨oa, oc, h1, h2⟩ := h.row
  have hl := (Array.getElem?_eq_some_iff.1 h1).1
  exact ⟨h.bel.trans (hb.mono (by omega)), ⟨oa, oc, (hb.block mb hl).trans h1, own_below h2 hb⟩, fun p hp => (h.mem p hp).below hb⟩
theorem SnT.push {mb : Nat} {w : World} {sa : Option Addr} {n sc : Nat} {L : List BM} {W W1 : World} {p : BM} {oa : Option Addr} {oc : Nat} {o : Obj} {g cp : Nat} (h : SnT mb w sa n sc L W) (hp : SeBm (mb + 1) W p)
    (hbox : W.heap[mb]? = some (.cells #[.slice sa n sc, .slice oa L.length oc] 50)) (hown : W.ownsRow (mb + 1) 31 4 (.slice oa L.length oc) L.length (seC L))
    (hg : (W.alloc o).grownBy W1 (Value.slice oa L.length oc).ownBlock) (ho : W1.ownsRow (mb + 1) 31 4 (.slice (some ⟨g, 0, none⟩) (L.length + 1) cp) (L.length + 1) (seC L ++ seC1 p)) :
    SnT mb w sa n sc (L ++ [p]) (W1.setCell ⟨mb, 1, none⟩ (.slice (some ⟨g, 0, none⟩) (L.length + 1) cp)) := by
  have hl := (Array.getElem?_eq_some_iff.1 hbox).1
  have hne : (Value.slice oa L.length oc).ownBlock ≠ some mb := fun e => by have := own_block_le hown e; omega
  have hza : (W.alloc o).heap.size = W.heap.size + 1 := by simp
  have hz1 := hg.size
  have hb1 : W1.heap[mb]? = some (.cells #[.slice sa n sc, .slice oa L.length oc] 50) := (hg.block mb (by omega) (Ne.symm hne)).trans ((Below.heap_alloc W o mb hl).trans hbox)
  have hb2 := heap_setCell_same W1 mb 1 _ _ (.slice (some ⟨g, 0, none⟩) (L.length + 1) cp) hb1
  have far : ∀ b, b ≠ mb → (W1.setCell ⟨mb, 1, none⟩ (.slice (some ⟨g, 0, none⟩) (L.length + 1) cp)).heap[b]? = W1.heap[b]? := fun b hb => heap_setCell_other W1 ⟨mb, 1, none⟩ b _ hb
  have hrow : ∀ (v : Value) (k : Nat) (xs : List Value), W.ownsRow (mb + 1) 3 1 v k xs → (W1.setCell ⟨mb, 1, none⟩ (.slice (some ⟨g, 0, none⟩) (L.length + 1) cp)).ownsRow (mb + 1) 3 1 v k xs := fun v k xs hv => by
    have e1 := (hv.alloc o).kept hg (own_ne (hv.alloc o) (hown.alloc o) (by decide))
    exact own_keep e1 (fun b hb => far b (by have := own_block_le e1 hb; omega))
  have hlen : (L ++ [p]).length = L.length + 1 := by simp
  refine ⟨?_, ⟨some ⟨g, 0, none⟩, cp, ?_, ?_⟩, fun q hq => ?_⟩
  · have e1 : Below mb w (W.alloc o) := h.bel.alloc (by omega) o
    have e2 : Below mb w W1 := e1.grown hg (by omega) (fun b hb => by have := own_block_le hown hb; omega)
    exact e2.setCell (p := ⟨mb, 1, none⟩) (Nat.le_refl _) _
  · rw [hlen]; exact hb2
  · rw [hlen, seC_append, seC_one]
    exact own_keep ho (fun b hb => far b (by have := own_block_le ho hb; omega))
  · rw [List.mem_append, List.mem_singleton] at hq
    have hq2 : SeBm (mb + 1) W q := by
      rcases hq with hq | rfl
      · exact h.mem q hq
      · exact hp
    obtain ⟨S, ca, cc, wa, wc, lo, hi, h1, h0, h2, h3⟩ := hq2
    exact ⟨S, ca, cc, wa, wc, lo, hi, h1, h0, hrow _ _ _ h2, hrow _ _ _ h3⟩
theorem own_cl {W : World} {base : Nat} {a : Option Addr} {c : Nat} {S : List CH} (h : W.ownsRow base 3 1 (.slice a S.length c) S.length (clC S)) : Ints W.heap.size W a S.length (fun k => (S.getD k ch0).1) := by
  by_cases hl : S.length = 0
  · exact .inl hl
  · obtain ⟨b, rfl, h1, h2⟩ := own_at h (by omega)
    refine .inr ⟨b, 0, rfl, h2, fun i hi => ?_⟩
    have := h.cellAt i (by omega)
    rw [Nat.zero_add, this]
    dsimp only
    rw [List.getD_eq_getElem?_getD]
    simp [clC, hi]
theorem own_wt {W : World} {base : Nat} {a : Option Addr} {c : Nat} {S : List CH} (h : W.ownsRow base 3 1 (.slice a S.length c) S.length (wtC S)) : Ints W.heap.size W a S.length (fun k => (S.getD k ch0).2) := by
  by_cases hl : S.length = 0
  · exact .inl hl
  · obtain ⟨b, rfl, h1, h2⟩ := own_at h (by omega)
    refine .inr ⟨b, 0, rfl, h2, fun i hi => ?_⟩
    have := h.cellAt i (by omega)
    rw [Nat.zero_add, this]
    dsimp only
    rw [List.getD_eq_getElem?_getD]
    simp [wtC, hi]
theorem SnT.beams {mb : Nat} {w : World} {sa : Option Addr} {n sc : Nat} {L : List BM} {W : World} {oa : Option Addr} {oc : Nat} (h : SnT mb w sa n sc L W) (hl : L.length ≤ maxLen) (hown : W.ownsRow (mb + 1) 31 4 (.slice oa L.length oc) L.length (seC L)) : Beams W.heap.size W oa L.length (fun i => L.getD i se0) := by
  refine ⟨hl, ?_⟩
  by_cases h0 : L.length = 0
  · exact .inl h0
  · obtain ⟨b, rfl, h1, h2⟩ := own_at hown (by omega)
    refine .inr ⟨b, 0, rfl, h2, fun i hi => ⟨?_, ?_⟩⟩
    · have hc : ∀ s, s < 4 → W.cell? ⟨b, 0 + i * 4 + s, none⟩ = (seC1 (L.getD i se0))[s]? := fun s hs => by
        rw [Nat.zero_add, hown.cellAt (i * 4 + s) (by omega)]
        exact seC_get L i s se0 hi hs
      exact ⟨hc 0 (by omega), hc 1 (by omega), hc 2 (by omega), hc 3 (by omega)⟩
    · have hmem : L.getD i se0 ∈ L := by
        rw [List.getD_eq_getElem?_getD, List.getElem?_eq_getElem hi]
        exact List.getElem_mem _
      obtain ⟨S, ca, cc, wa, wc, lo, hi2, h3, h0, h4, h5⟩ := h.mem _ hmem
      show (L.getD i se0).mem _ _
      rw [h3]
      exact ⟨h0, h0, own_cl h4, own_wt h5⟩
theorem agreesB_snoc {L : List BM} {p : BM} {d : Nat → Int} : agreesB (L.length + 1) (fun i => (L ++ [p]).getD i se0) d = (agreesB L.length (fun i => L.getD i se0) d && inB (ofN p d) p.lo p.hi) := by
  unfold agreesB
  rw [Bool.eq_iff_iff, Bool.and_eq_true, allUpto_iff, allUpto_iff]
  have e1 : ∀ i, i < L.length → (L ++ [p]).getD i se0 = L.getD i se0 := fun i hi => by
    rw [List.getD_eq_getElem?_getD, List.getElem?_append_left hi, List.getD_eq_getElem?_getD]
  have e2 : (L ++ [p]).getD L.length se0 = p := by simp
  constructor
  · intro h
    exact ⟨fun i hi => by have := h i (by omega); dsimp only at this ⊢; rwa [e1 i hi] at this, by have := h L.length (by omega); dsimp only at this; rwa [e2] at this⟩
  · rintro ⟨h1, h2⟩ i hi
    by_cases e : i = L.length
    · subst e; dsimp only; rw [e2]; exact h2
    · dsimp only; rw [e1 i (by omega)]; exact h1 i (by omega)
end Go.Proofs.YtkdopjkdokgipaaGreatDoor
