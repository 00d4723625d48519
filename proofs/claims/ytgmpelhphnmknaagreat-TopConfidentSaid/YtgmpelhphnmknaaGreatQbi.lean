/- Texts put together: ToTpJ, ToTpS, ToTpK, ImWid, ImBnds. -/
import Derived.Test.YtgmpelhphnmknaaGreatQat
import Derived.Test.YtgmpelhphnmknaaGreatQbh
import Derived.Test.YtgmpelhphnmknaaGreatQax
import Derived.Test.YtgmpelhphnmknaaGreatQaj
import Derived.Test.YtgmpelhphnmknaaGreatQah
set_option maxRecDepth 100000
set_option maxHeartbeats 8000000
set_option linter.unusedVariables false
set_option linter.unusedSimpArgs false
namespace Go.Proofs.YtgmpelhphnmknaaGreat
open Go Go.RowKit
theorem set2 {W : World} {b : Nat} {t : TypeId} {x y u v : Value} (h : W.heap[b]? = some (.cells #[x, y] t)) : ((W.setCell ⟨b, 0, none⟩ u).setCell ⟨b, 1, none⟩ v).heap[b]? = some (.cells #[u, v] t) ∧ ∀ c, c ≠ b → ((W.setCell ⟨b, 0, none⟩ u).setCell ⟨b, 1, none⟩ v).heap[c]? = W.heap[c]? :=
 ⟨heap_setCell_same _ b 1 _ _ v (heap_setCell_same W b 0 _ _ u h), fun c hc => (heap_setCell_other _ ⟨b, 1, none⟩ c v hc).trans (heap_setCell_other W ⟨b, 0, none⟩ c u hc)⟩
def spanRow (x y : Value) : Obj := .cells #[x, y] 28
def spellRow : Obj := .cells #[.int .i64 1, .int .i64 0, .int .i64 0, .int .i64 0, .int .i64 0] 48
def SpKeep (w w' : World) : Prop := ∀ (b : Nat) (o : Obj), w.heap[b]? = some o → w'.heap[b]? = some o ∨ ∃ x y u v, o = spanRow x y ∧ w'.heap[b]? = some (spanRow u v)
def SpG (c hz : Nat) (lo hi e : Int) (i : Nat) (x : Nat → Value) (W : World) : Prop :=
 if i + 1 = c then ∃ sb, x i = .slice (some ⟨sb, 0, none⟩) 1 1 ∧ W.heap[sb]? = some spellRow
 else if i = c + 4 then ∃ bb u v, x i = .pointer (some ⟨bb, 0, none⟩) ∧ hz ≤ bb ∧ W.heap[bb]? = some (spanRow u v)
 else if i = c + 5 then ∃ bb, x (c + 4) = .pointer (some ⟨bb, 0, none⟩) ∧ hz ≤ bb ∧ W.heap[bb]? = some (spanRow (.int .i64 lo) (.int .i64 hi))
 else if i < c + 2 then x i = .tuple #[.agg #[.int .i64 lo, .int .i64 hi], .int .i64 e]
 else if i = c + 2 then x i = .agg #[.int .i64 lo, .int .i64 hi]
 else x i = .int .i64 e
section
variable {c hz i : Nat} {lo hi e : Int} {x : Nat → Value} {W : World}
theorem SpG.sl (h : i + 1 = c) : SpG c hz lo hi e i x W ↔ ∃ sb, x i = .slice (some ⟨sb, 0, none⟩) 1 1 ∧ W.heap[sb]? = some spellRow := by unfold SpG; rw [if_pos h]
theorem SpG.al (h : i = c + 4) : SpG c hz lo hi e i x W ↔ ∃ bb u v, x i = .pointer (some ⟨bb, 0, none⟩) ∧ hz ≤ bb ∧ W.heap[bb]? = some (spanRow u v) := by unfold SpG; rw [if_neg (by omega), if_pos h]
theorem SpG.st (h : i = c + 5) : SpG c hz lo hi e i x W ↔ ∃ bb, x (c + 4) = .pointer (some ⟨bb, 0, none⟩) ∧ hz ≤ bb ∧ W.heap[bb]? = some (spanRow (.int .i64 lo) (.int .i64 hi)) := by unfold SpG; rw [if_neg (by omega), if_neg (by omega), if_pos h]
theorem SpG.cl (h : i = c ∨ i = c + 1) : SpG c hz lo hi e i x W ↔ x i = .tuple #[.agg #[.int .i64 lo, .int .i64 hi], .int .i64 e] := by unfold SpG; rw [if_neg (by omega), if_neg (by omega), if_neg (by omega), if_pos (by omega)]
theorem SpG.ex (h : i = c + 2) : SpG c hz lo hi e i x W ↔ x i = .agg #[.int .i64 lo, .int .i64 hi] := by unfold SpG; rw [if_neg (by omega), if_neg (by omega), if_neg (by omega), if_neg (by omega), if_pos h]
theorem SpG.er (h : i = c + 3 ∨ i = c + 6) : SpG c hz lo hi e i x W ↔ x i = .int .i64 e := by unfold SpG; rw [if_neg (by omega), if_neg (by omega), if_neg (by omega), if_neg (by omega), if_neg (by omega)]
end
def SpR (c i : Nat) (w w' : World) : Prop := if i = c + 5 then SpKeep w w' else Below w.heap.size w w'
theorem SpR.keep {c i : Nat} {w w' : World} (h : SpR c i w w') : SpKeep w w' := by
 unfold SpR at h
 split at h
 ·exact h
 ·exact fun b o hb => .inl (keep_at hb h)
theorem SpG.step {md : Region.Mode} {ops : Array Oper} {c hz : Nat} {lo hi e : Int} (hw : Region.waitsFor md ops (c + 5) (c + 4) = true) : ∀ (i j : Nat) (x y : Nat → Value) (w w' : World), i ≠ j → x j = y j → (∀ k, Region.waitsFor md ops j k = true → x k = y k) → SpR c i w w' → SpG c hz lo hi e j x w → SpG c hz lo hi e j y w' := by
 intro i j x y w w' hij hxy hd hR h
 unfold SpG at *
 rw [← hxy]
 split
 ·rename_i h1
  rw [if_pos h1] at h
  obtain ⟨sb, h2, h3⟩ := h
  rcases hR.keep sb _ h3 with h4 | ⟨a, b, u, v, h4, _⟩
  ·exact ⟨sb, h2, h4⟩
  ·exact absurd h4 (by simp [spellRow, spanRow])
 ·rename_i h1
  rw [if_neg h1] at h
  split
  ·rename_i h2
   rw [if_pos h2] at h
   obtain ⟨bb, u, v, h3, h4, h5⟩ := h
   rcases hR.keep bb _ h5 with h6 | ⟨_, _, u2, v2, _, h6⟩
   ·exact ⟨bb, u, v, h3, h4, h6⟩
   ·exact ⟨bb, u2, v2, h3, h4, h6⟩
  ·rename_i h2
   rw [if_neg h2] at h
   split
   ·rename_i h3
    rw [if_pos h3] at h
    subst h3
    obtain ⟨bb, h4, h5, h6⟩ := h
    refine ⟨bb, (hd _ hw) ▸ h4, h5, ?_⟩
    unfold SpR at hR
    rw [if_neg hij] at hR
    exact keep_at h6 hR
   ·rename_i h3
    rw [if_neg h3] at h
    exact h
def SpBox (hz bb : Nat) (lo hi : Int) (W W' : World) : Prop := hz ≤ bb ∧ Below hz W W' ∧ W'.heap[bb]? = some (spanRow (.int .i64 lo) (.int .i64 hi))
theorem sp_alloc {c i : Nat} {W w : World} {o : Obj} (hi : i ≠ c + 5) (hb : Below W.heap.size W w) : Below W.heap.size W (w.alloc o) ∧ SpR c i w (w.alloc o) := ⟨hb.alloc hb.size o, by unfold SpR; rw [if_neg hi]; exact al_below w o⟩
theorem sp_call {c i : Nat} {W w w' : World} (hi : i ≠ c + 5) (hb : Below W.heap.size W w) (h : Below w.heap.size w w') : Below W.heap.size W w' ∧ SpR c i w w' := ⟨hb.trans (h.mono hb.size), by unfold SpR; rw [if_neg hi]; exact h⟩
theorem sp_store {c bb : Nat} {W w : World} {x y u v : Value} (hb : Below W.heap.size W w) (hz1 : W.heap.size ≤ bb) (h : w.heap[bb]? = some (spanRow x y)) : Below W.heap.size W ((w.setCell ⟨bb, 0, none⟩ u).setCell ⟨bb, 1, none⟩ v) ∧ SpR c (c + 5) w ((w.setCell ⟨bb, 0, none⟩ u).setCell ⟨bb, 1, none⟩ v) ∧ ((w.setCell ⟨bb, 0, none⟩ u).setCell ⟨bb, 1, none⟩ v).heap[bb]? = some (spanRow u v) := by
 obtain ⟨h1, h2⟩ := set2 (u := u) (v := v) h
 refine ⟨(hb.setCell (p := ⟨bb, 0, none⟩) hz1 u).setCell (p := ⟨bb, 1, none⟩) hz1 v, ?_, h1⟩
 unfold SpR
 rw [if_pos rfl]
 intro b o ho
 by_cases e : b = bb
 ·subst e
  rw [h] at ho
  obtain rfl := Option.some.inj ho
  exact .inr ⟨x, y, u, v, rfl, h1⟩
 ·exact .inl ((h2 b e).trans ho)
end Go.Proofs.YtgmpelhphnmknaaGreat
namespace Go.Proofs.YtgmpelhphnmknaaGreat
open Go Go.RowKit Go.Shelf
section
variable {v : VO} {ga : Option Addr} {gn : Nat} {g : Nat → Int} {sa : Option Addr} {sn : Nat} {ss : Nat → SV} {da : Option Addr} {dn : Nat} {d : Nat → Int} {s : SK} {ta : Option Addr} {tn : Nat} {t : Nat → RW} {w W : World}
theorem TdIn.shine (h : TdIn v ga gn g sa sn ss da dn d s ta tn t w) (gc : Nat) (r : RY) (hr : rayB r = true) (lo hi : Int) (hsp : 0 ≤ lo ∧ lo ≤ hi ∧ hi ≤ 1000000000000) (hb : Below w.heap.size w W) :
  Calls Tryz.prog 16 #[v.val, .slice ga gn gc, r.val, .agg #[.int .i64 lo, .int .i64 hi]] W (ShRes v r g lo hi W) :=
 Shine_ok shSort v r ga gn gc g lo hi W h.gl (h.G hb) (by unfold rkOk; rw [h.volb, hr, h.grb]; rfl) (by unfold spanB; rw [Bool.and_eq_true, inB_iff]; simp only [decide_eq_true_eq]; exact ⟨⟨hsp.1, hsp.2.1⟩, hsp.2.2⟩)
end
end Go.Proofs.YtgmpelhphnmknaaGreat
namespace Go.Proofs.YtgmpelhphnmknaaGreat
open Go Go.RowKit
def beamRow (x y u v : Value) : Obj := .cells #[x, y, u, v] 62
def BmKeep (w w' : World) : Prop := ∀ (b : Nat) (o : Obj), w.heap[b]? = some o → w'.heap[b]? = some o ∨ ∃ x0 x1 x2 x3 y0 y1 y2 y3, o = beamRow x0 x1 x2 x3 ∧ w'.heap[b]? = some (beamRow y0 y1 y2 y3)
structure BmF (v : VO) (r : RY) (g : Nat → Int) (m hz : Nat) (S : List CH) (ca : Option Addr) (cc : Nat) (wa : Option Addr) (wc : Nat) (W : World) : Prop where
 perm : S.Perm (chs (prN v r g (m + 1)))
 sort : S.Pairwise (fun x y => x.1 ≤ y.1)
 cl : W.ownsRow hz 3 1 (.slice ca S.length cc) S.length (clC S)
 wt : W.ownsRow hz 3 1 (.slice wa S.length wc) S.length (wtC S)
theorem own_bm {W W' : World} {base : Nat} {v : Value} {n : Nat} {xs : List Value} (h : W.ownsRow base 3 1 v n xs) (hk : BmKeep W W') : W'.ownsRow base 3 1 v n xs := by
 refine ⟨h.1, ?_⟩
 rcases h.2 with h | ⟨g, cap, cur, hv, h1, h2, h3⟩
 ·exact .inl h
 ·refine .inr ⟨g, cap, cur, hv, h1, ?_, h3⟩
  rcases hk g _ h2 with h4 | ⟨_, _, _, _, _, _, _, _, h4, _⟩
  ·exact h4
  ·exact absurd h4 (by simp [beamRow])
theorem BmF.keep {v : VO} {r : RY} {g : Nat → Int} {m hz : Nat} {S : List CH} {ca : Option Addr} {cc : Nat} {wa : Option Addr} {wc : Nat} {W W' : World} (h : BmF v r g m hz S ca cc wa wc W) (hk : BmKeep W W') : BmF v r g m hz S ca cc wa wc W' := ⟨h.perm, h.sort, own_bm h.cl hk, own_bm h.wt hk⟩
def BmG (v : VO) (r : RY) (g : Nat → Int) (m c hz : Nat) (lo hi : Int) (i : Nat) (x : Nat → Value) (W : World) : Prop :=
 if i + 1 = c then x i = .agg #[.int .i64 lo, .int .i64 hi]
 else if i = c + 4 then ∃ bb y0 y1 y2 y3, x i = .pointer (some ⟨bb, 0, none⟩) ∧ hz ≤ bb ∧ W.heap[bb]? = some (beamRow y0 y1 y2 y3)
 else if i = c + 5 then ∃ bb S ca cc wa wc, x (c + 4) = .pointer (some ⟨bb, 0, none⟩) ∧ hz ≤ bb ∧ W.heap[bb]? = some (beamRow (.slice ca S.length cc) (.slice wa S.length wc) (.int .i64 lo) (.int .i64 hi)) ∧ BmF v r g m hz S ca cc wa wc W
 else if i < c + 2 then ∃ S ca cc wa wc, x i = .tuple #[.agg #[.slice ca S.length cc, .slice wa S.length wc, .int .i64 lo, .int .i64 hi], .int .i64 0] ∧ BmF v r g m hz S ca cc wa wc W
 else if i = c + 2 then ∃ S ca cc wa wc, x i = .agg #[.slice ca S.length cc, .slice wa S.length wc, .int .i64 lo, .int .i64 hi] ∧ BmF v r g m hz S ca cc wa wc W
 else x i = .int .i64 0
section
variable {v : VO} {r : RY} {g : Nat → Int} {m c hz i : Nat} {lo hi : Int} {x : Nat → Value} {W : World}
theorem BmG.sm (h : i + 1 = c) : BmG v r g m c hz lo hi i x W ↔ x i = .agg #[.int .i64 lo, .int .i64 hi] := by unfold BmG; rw [if_pos h]
theorem BmG.al (h : i = c + 4) : BmG v r g m c hz lo hi i x W ↔ ∃ bb y0 y1 y2 y3, x i = .pointer (some ⟨bb, 0, none⟩) ∧ hz ≤ bb ∧ W.heap[bb]? = some (beamRow y0 y1 y2 y3) := by unfold BmG; rw [if_neg (by omega), if_pos h]
theorem BmG.st (h : i = c + 5) : BmG v r g m c hz lo hi i x W ↔ ∃ bb S ca cc wa wc, x (c + 4) = .pointer (some ⟨bb, 0, none⟩) ∧ hz ≤ bb ∧ W.heap[bb]? = some (beamRow (.slice ca S.length cc) (.slice wa S.length wc) (.int .i64 lo) (.int .i64 hi)) ∧ BmF v r g m hz S ca cc wa wc W := by unfold BmG; rw [if_neg (by omega), if_neg (by omega), if_pos h]
theorem BmG.cl (h : i = c ∨ i = c + 1) : BmG v r g m c hz lo hi i x W ↔ ∃ S ca cc wa wc, x i = .tuple #[.agg #[.slice ca S.length cc, .slice wa S.length wc, .int .i64 lo, .int .i64 hi], .int .i64 0] ∧ BmF v r g m hz S ca cc wa wc W := by unfold BmG; rw [if_neg (by omega), if_neg (by omega), if_neg (by omega), if_pos (by omega)]
theorem BmG.ex (h : i = c + 2) : BmG v r g m c hz lo hi i x W ↔ ∃ S ca cc wa wc, x i = .agg #[.slice ca S.length cc, .slice wa S.length wc, .int .i64 lo, .int .i64 hi] ∧ BmF v r g m hz S ca cc wa wc W := by unfold BmG; rw [if_neg (by omega), if_neg (by omega), if_neg (by omega), if_neg (by omega), if_pos h]
theorem BmG.er (h : i = c + 3 ∨ i = c + 6) : BmG v r g m c hz lo hi i x W ↔ x i = .int .i64 0 := by unfold BmG; rw [if_neg (by omega), if_neg (by omega), if_neg (by omega), if_neg (by omega), if_neg (by omega)]
end
def BmR (c i : Nat) (w w' : World) : Prop := if i = c + 5 then BmKeep w w' else Below w.heap.size w w'
theorem BmR.keep {c i : Nat} {w w' : World} (h : BmR c i w w') : BmKeep w w' := by
 unfold BmR at h
 split at h
 ·exact h
 ·exact fun b o hb => .inl (keep_at hb h)
theorem BmG.step {v : VO} {r : RY} {g : Nat → Int} {m : Nat} {md : Region.Mode} {ops : Array Oper} {c hz : Nat} {lo hi : Int} (hw : Region.waitsFor md ops (c + 5) (c + 4) = true) : ∀ (i j : Nat) (x y : Nat → Value) (w w' : World), i ≠ j → x j = y j → (∀ k, Region.waitsFor md ops j k = true → x k = y k) → BmR c i w w' → BmG v r g m c hz lo hi j x w → BmG v r g m c hz lo hi j y w' := by
 intro i j x y w w' hij hxy hd hR h
 by_cases h1 : j + 1 = c
 ·exact (BmG.sm h1).2 (hxy ▸ (BmG.sm h1).1 h)
 by_cases h2 : j = c + 4
 ·obtain ⟨bb, y0, y1, y2, y3, h3, h4, h5⟩ := (BmG.al h2).1 h
  rcases hR.keep bb _ h5 with h6 | ⟨_, _, _, _, z0, z1, z2, z3, _, h6⟩
  ·exact (BmG.al h2).2 ⟨bb, y0, y1, y2, y3, hxy ▸ h3, h4, h6⟩
  ·exact (BmG.al h2).2 ⟨bb, z0, z1, z2, z3, hxy ▸ h3, h4, h6⟩
 by_cases h3 : j = c + 5
 ·obtain ⟨bb, S, ca, cc, wa, wc, h4, h5, h6, h7⟩ := (BmG.st h3).1 h
  have hk := hR.keep
  subst h3
  unfold BmR at hR
  rw [if_neg hij] at hR
  exact (BmG.st rfl).2 ⟨bb, S, ca, cc, wa, wc, (hd _ hw) ▸ h4, h5, keep_at h6 hR, h7.keep hk⟩
 by_cases h4 : j < c + 2
 ·unfold BmG at *
  rw [if_neg h1, if_neg h2, if_neg h3, if_pos h4] at h ⊢
  obtain ⟨S, ca, cc, wa, wc, h5, h6⟩ := h
  exact ⟨S, ca, cc, wa, wc, hxy ▸ h5, h6.keep hR.keep⟩
 by_cases h5 : j = c + 2
 ·obtain ⟨S, ca, cc, wa, wc, h6, h7⟩ := (BmG.ex h5).1 h
  exact (BmG.ex h5).2 ⟨S, ca, cc, wa, wc, hxy ▸ h6, h7.keep hR.keep⟩
 ·unfold BmG at *
  rw [if_neg h1, if_neg h2, if_neg h3, if_neg h4, if_neg h5] at h ⊢
  rw [← hxy]
  exact h
def BmBox (v : VO) (r : RY) (g : Nat → Int) (m hz bb : Nat) (lo hi : Int) (W W' : World) : Prop := hz ≤ bb ∧ Below hz W W' ∧ ∃ S ca cc wa wc, W'.heap[bb]? = some (beamRow (.slice ca S.length cc) (.slice wa S.length wc) (.int .i64 lo) (.int .i64 hi)) ∧ BmF v r g m hz S ca cc wa wc W'
theorem bm_alloc {c i : Nat} {W w : World} {o : Obj} (hi : i ≠ c + 5) (hb : Below W.heap.size W w) : Below W.heap.size W (w.alloc o) ∧ BmR c i w (w.alloc o) := ⟨hb.alloc hb.size o, by unfold BmR; rw [if_neg hi]; exact al_below w o⟩
theorem bm_call {c i : Nat} {W w w' : World} (hi : i ≠ c + 5) (hb : Below W.heap.size W w) (h : Below w.heap.size w w') : Below W.heap.size W w' ∧ BmR c i w w' := ⟨hb.trans (h.mono hb.size), by unfold BmR; rw [if_neg hi]; exact h⟩
theorem bm_store {c bb : Nat} {W w : World} {x0 x1 x2 x3 y0 y1 y2 y3 : Value} (hb : Below W.heap.size W w) (hz1 : W.heap.size ≤ bb) (h : w.heap[bb]? = some (beamRow x0 x1 x2 x3)) : Below W.heap.size W ((((w.setCell ⟨bb, 0, none⟩ y0).setCell ⟨bb, 1, none⟩ y1).setCell ⟨bb, 2, none⟩ y2).setCell ⟨bb, 3, none⟩ y3) ∧ BmR c (c + 5) w ((((w.setCell ⟨bb, 0, none⟩ y0).setCell ⟨bb, 1, none⟩ y1).setCell ⟨bb, 2, none⟩ y2).setCell ⟨bb, 3, none⟩ y3) ∧ ((((w.setCell ⟨bb, 0, none⟩ y0).setCell ⟨bb, 1, none⟩ y1).setCell ⟨bb, 2, none⟩ y2).setCell ⟨bb, 3, none⟩ y3).heap[bb]? = some (beamRow y0 y1 y2 y3) := by
 obtain ⟨h1, h2, h3⟩ := set4 w bb _ _ _ _ _ y0 y1 y2 y3 h
 refine ⟨h3 W hb hz1, ?_, h1⟩
 unfold BmR
 rw [if_pos rfl]
 intro b o ho
 by_cases e : b = bb
 ·subst e
  rw [h] at ho
  obtain rfl := Option.some.inj ho
  exact .inr ⟨x0, x1, x2, x3, y0, y1, y2, y3, rfl, h1⟩
 ·exact .inl ((h2 b e).trans ho)
theorem SnT.pushj {mb : Nat} {w : World} {sa : Option Addr} {n sc k : Nat} {L : List BM} {W W1 : World} {p : BM} {oa : Option Addr} {oc : Nat} {o : Obj} {g cp : Nat} (hk : L.length = k) (h : SnT mb w sa n sc L W) (hp : SeBm (mb + 1) W p)
  (hbox : W.heap[mb]? = some (.cells #[.slice sa n sc, .slice oa k oc] 59)) (hown : W.ownsRow (mb + 1) 62 4 (.slice oa k oc) k (seC L))
  (hg : (W.alloc o).grownBy W1 (Value.slice oa k oc).ownBlock) (ho : W1.ownsRow (mb + 1) 62 4 (.slice (some ⟨g, 0, none⟩) (k + 1) cp) (k + 1) (seC L ++ seC1 p)) :
  SnT mb w sa n sc (L ++ [p]) (W1.setCell ⟨mb, 1, none⟩ (.slice (some ⟨g, 0, none⟩) (k + 1) cp)) := by
 subst hk
 exact SnT.push h hp hbox hown hg ho
theorem BmF.len {v : VO} {r : RY} {g : Nat → Int} {m hz : Nat} {S : List CH} {ca : Option Addr} {cc : Nat} {wa : Option Addr} {wc : Nat} {W : World} (h : BmF v r g m hz S ca cc wa wc W) (hv : v.Ok) (hr : r.Ok) (hM : IsM v r m) : S.length ≤ maxLen := by
 have h1 := h.perm.length_eq
 have h2 := prN_many hv hr (g := g) hM
 have h3 : (chs (prN v r g (m + 1))).length = (prN v r g (m + 1)).length := by simp [chs]
 unfold maxLen
 omega
theorem lb_snoc {L : List BM} {p : BM} {n i : Nat} (hl : L.length = i) (h : ∀ j, j < i → beamB n (L.getD j se0) = true) (hp : beamB n p = true) : ∀ j, j < i + 1 → beamB n ((L ++ [p]).getD j se0) = true := by
 subst hl
 intro j hj
 by_cases e : j = L.length
 ·subst e
  rw [List.getD_eq_getElem?_getD, List.getElem?_append_right (Nat.le_refl _)]
  simpa using hp
 ·have h1 : j < L.length := by omega
  rw [List.getD_eq_getElem?_getD, List.getElem?_append_left h1, ← List.getD_eq_getElem?_getD]
  exact h j h1
end Go.Proofs.YtgmpelhphnmknaaGreat
namespace Go.Proofs.YtgmpelhphnmknaaGreat
open Go.RowKit Go.Shelf
def widS (known : Bool) (s : SV) (x : Int) : SV := if known = true then ⟨if x < s.lo then x else s.lo, if s.hi < x then x else s.hi⟩ else ⟨x, x⟩
theorem grown_set {w W : World} {ob o : Nat} (h : w.grownBy W (some ob)) (v : Value) : w.grownBy (W.setCell ⟨ob, o, none⟩ v) (some ob) :=
 ⟨h.os, h.tape, h.output, by have := h.size; simpa [World.setCell] using this, fun k hk hn => (Below.heap_setCell W ⟨ob, o, none⟩ v k (fun e => hn (by rw [show k = ob from e]))).trans (h.block k hk hn)⟩
theorem grown_drew {w W : World} {r : Option Nat} (h : w.grownBy W r) : w.grownBy W.drew r := ⟨h.os, h.tape, h.output, h.size, h.block⟩
theorem grown_below {w W W' : World} {r : Option Nat} (h : w.grownBy W r) (hb : Below W.heap.size W W') : w.grownBy W' r :=
 ⟨hb.os.trans h.os, hb.tape.trans h.tape, hb.output.trans h.output, Nat.le_trans h.size hb.size, fun b hl hn => (hb.block b (Nat.lt_of_lt_of_le hl h.size)).trans (h.block b hl hn)⟩
theorem SR.drew {t : TypeId} {W : World} {b m : Nat} {f : Nat → SV} (h : SR t W b m f) : SR t W.drew b m f := h
theorem wid_min (x y : Int) : min y x = if x < y then x else y := by
  rw [Int.min_def]; split <;> split <;> omega
theorem wid_max (x y : Int) : max y x = if y < x then x else y := by
  rw [Int.max_def]; split <;> split <;> omega
theorem wid_step {known : Bool} {g : Nat → SV} {num : Nat → Int} {i j : Nat} {x : Int} {s : SV} (hx : x = num i) (hs : s = widS known (g i) x) : (if j = i then s else if j < i then widS known (g j) (num j) else g j) = if j < i + 1 then widS known (g j) (num j) else g j := by
 by_cases e : j = i
 ·subst e; rw [if_pos rfl, if_pos (by omega), hs, hx]
 ·rw [if_neg e]
  by_cases h : j < i
  ·rw [if_pos h, if_pos (by omega)]
  ·rw [if_neg h, if_neg (by omega)]
theorem boundsF_any (a : Option Addr) (n cap : Nat) (f : Nat → Int) (i : Nat) (hi : i < n) (hn : n ≤ 1000000) (w : World) (hF : Ints w.heap.size w a n f) :
  Calls Tryz.prog 55 #[.slice a n cap, .int .i64 (i : Int)] w fun e w' => e = .returned (.int .i64 (f i)) ∧ w = w' := by
 obtain ⟨b, off, rfl, hb, hc⟩ := hF.get hi
 have hi' : (i : Int) < (n : Int) := by omega
 go_enter Tryz.func55, Tryz.ntmps55
 go_wp2
 go_ret
 exact ⟨rfl, rfl⟩
theorem widenB_any (ob k kc : Nat) (g : Nat → SV) (known : Bool) (xa : Option Addr) (n xc : Nat) (num : Nat → Int) (hk : k ≤ 1000000) (w : World) (hS : SR 28 w ob k g)
  (hnum : ∀ i, i < k → ∀ W', w.grownBy W' (some ob) → Calls Tryz.prog 55 #[.slice xa n xc, .int .i64 (i : Int)] W' fun e W'' => e = .returned (.int .i64 (num i)) ∧ Below W'.heap.size W' W'') :
  Calls Tryz.prog 54 #[.slice (some ⟨ob, 0, none⟩) k kc, .bool known, .slice xa n xc, .func (.func 55) #[] #[]] w fun e w' => e = .returned (.tuple #[]) ∧ w.grownBy w' (some ob) ∧ SR 28 w' ob k (fun i => widS known (g i) (num i)) := by
 have HS := Lib.hid hS
 have HNUM := Lib.hid hnum
 clear hS hnum
 go_enter Tryz.func54, Tryz.ntmps54
 go_wp2
 go_loopw [12] (fun t wr => ∃ i : Nat, i ≤ k ∧ t = .int .i64 (i : Int) ∧ Hid (w.grownBy wr (some ob) ∧ SR 28 wr ob k (fun j => if j < i then widS known (g j) (num j) else g j))) (fun t _ => k - (intOf t).toNat)
 case atStart => exact ⟨0, Nat.zero_le _, rfl, Lib.hid ⟨⟨rfl, rfl, rfl, Nat.le_refl _, fun _ _ _ => rfl⟩, HS.out.congr (fun j _ => by simp)⟩⟩
 case round =>
  clear HS
  obtain ⟨i, hi, rfl, HX⟩ := hrel
  by_cases hlt : i < k
  ·have hlt' : (i : Int) < (k : Int) := by omega
   have HC := Hd (HNUM.out i hlt wr HX.out.1)
   cases known
   ·go_wp2_with (fail)
    refine HC.out.mono ?_
    rintro e w2 ⟨rfl, hb⟩
    have HSR := Hd (HX.out.2.step hb)
    have HG := Hd (show w.grownBy w2 (some ob) from ⟨hb.os.trans HX.out.1.os, hb.tape.trans HX.out.1.tape, hb.output.trans HX.out.1.output, Nat.le_trans HX.out.1.size hb.size, fun b hl hn => (hb.block b (Nat.lt_of_lt_of_le hl HX.out.1.size)).trans (HX.out.1.block b hl hn)⟩)
    clear HC HX hb
    obtain ⟨c0, c1⟩ := HSR.out.cell hlt
    have f0 := HSR.out.frozen (i * 2)
    have f1 := HSR.out.frozen (i * 2 + 1)
    dsimp only
    generalize hx : num i = x at *
    have HXX := Lib.hid hx
    clear hx
    go_upto_region 6 with (fail)
    have HSR2 := Hd (HSR.out.set hlt x x)
    have HGV := Hd (grown_set (o := i * 2 + 1) (grown_set (o := i * 2) HG.out (.int .i64 x)) (.int .i64 x))
    have hzz : ((w2.setCell ⟨ob, i * 2, none⟩ (.int .i64 x)).setCell ⟨ob, i * 2 + 1, none⟩ (.int .i64 x)).heap.size = w2.heap.size := by simp
    clear c0 c1 f0 f1
    generalize (w2.setCell ⟨ob, i * 2, none⟩ (.int .i64 x)).setCell ⟨ob, i * 2 + 1, none⟩ (.int .i64 x) = V at *
    obtain ⟨c0, c1⟩ := HSR2.out.cell hlt
    rw [if_pos rfl] at c0 c1
    have f0 := HSR2.out.frozen (i * 2)
    have f1 := HSR2.out.frozen (i * 2 + 1)
    go_region
    have HW1 := Hd (grown_drew (grown_set (o := i * 2 + 1) (grown_set (o := i * 2) HGV.out (.int .i64 x)) (.int .i64 x)))
    have HW2 := Hd (SR.drew (HSR2.out.set hlt x x))
    clear HSR HSR2 HGV HG c0 c1 f0 f1 hzz
    generalize World.drew _ = V2 at *
    go_wp2
    go_roundw
    case rel => exact ⟨i + 1, by omega, by go_num, Lib.hid ⟨HW1.out, HW2.out.congr (fun j _ => by (have hw := wid_step (known := false) (g := g) (num := num) (j := j) (i := i) (x := x) HXX.out.symm (s := ⟨x, x⟩) rfl; by_cases e : j = i; (rw [if_pos e] at hw ⊢; exact hw); (rw [if_neg e] at hw ⊢; rw [if_neg e]; exact hw)))⟩⟩
    case measure => simp [intOf]; omega
   ·go_wp2_with (fail)
    refine HC.out.mono ?_
    rintro e w2 ⟨rfl, hb⟩
    have HSR := Hd (HX.out.2.step hb)
    have HG := Hd (grown_below HX.out.1 hb)
    clear HC HX hb
    obtain ⟨c0, c1⟩ := HSR.out.cell hlt
    rw [if_neg (Nat.lt_irrefl i)] at c0 c1
    have f0 := HSR.out.frozen (i * 2)
    have f1 := HSR.out.frozen (i * 2 + 1)
    dsimp only
    generalize hx : num i = x at *
    have HXX := Lib.hid hx
    clear hx
    go_upto_region 6 with (fail)
    go_region
    (try rw [wid_min]); (try rw [wid_max])
    have HW1 := Hd (grown_drew (grown_set (o := i * 2 + 1) (grown_set (o := i * 2) HG.out (.int .i64 (if x < (g i).lo then x else (g i).lo))) (.int .i64 (if (g i).hi < x then x else (g i).hi))))
    have HW2 := Hd (SR.drew (HSR.out.set hlt (if x < (g i).lo then x else (g i).lo) (if (g i).hi < x then x else (g i).hi)))
    clear HSR HG c0 c1 f0 f1
    generalize World.drew _ = V2 at *
    go_wp2
    go_roundw
    case rel => exact ⟨i + 1, by omega, by go_num, Lib.hid ⟨HW1.out, HW2.out.congr (fun j _ => wid_step (known := true) HXX.out.symm rfl)⟩⟩
    case measure => simp [intOf]; omega
  ·obtain rfl : i = k := by omega
   have hlt' : ¬ (i : Int) < (i : Int) := by omega
   have HF := Hd (HX.out.2.congr (g := fun j => widS known (g j) (num j)) (fun j hj => by rw [if_pos hj]))
   go_wp2
   go_end0
   exact ⟨rfl, HX.out.1, HF.out⟩
end Go.Proofs.YtgmpelhphnmknaaGreat
namespace Go.Proofs.YtgmpelhphnmknaaGreat
open Go.RowKit Go.Shelf
attribute [local go_sem] Oper.semAt_some
def BoundsRes (n : Nat) (ss : Nat → SV) (m : Nat) (bs : Nat → BM) (w : World) (e : Ending) (w' : World) : Prop :=
 Below w.heap.size w w' ∧
 (if checkN n ss m bs = 0 then if allF n ss m bs = [] then e = .returned (.tuple #[.slice none 0 0, .int .i64 5])
  else ∃ ob, e = .returned (.tuple #[.slice (some ⟨ob, 0, none⟩) n n, .int .i64 0]) ∧ w.heap.size ≤ ob ∧ SR 28 w' ob n (fun i => bnd (fun f => fOf f i) (allF n ss m bs))
 else e = .returned (.tuple #[.slice none 0 0, .int .i64 (checkN n ss m bs)]))
theorem wid_bnd (g : List Int → Int) (l : List (List Int)) (f : List Int) : widS (!l.isEmpty) (bnd g l) (g f) = bnd g (l ++ [f]) := by
 rw [bnd_snoc]
 cases l with
 | nil => rfl
 | cons x t =>
  rw [if_neg (List.cons_ne_nil x t)]
  generalize bnd g (x :: t) = s
  generalize g f = y
  show (⟨if y < s.lo then y else s.lo, if s.hi < y then y else s.hi⟩ : SV) = ⟨min s.lo y, max s.hi y⟩
  congr 1
  ·split <;> omega
  ·split <;> omega
theorem BodyStep.grown {R X O : Nat → Prop} {W W' : World} {ob : Nat} (h : Mine R X O W) (hg : W.grownBy W' (some ob)) (hx : X ob) {o : Obj} (ho : W'.heap[ob]? = some o) (hc : o.isCells = true) : BodyStep X W W' X :=
 ⟨hg.os, hg.tape, hg.output, hg.size, fun b hb hn => hg.block b hb (fun e => hn (by injection e with e; rw [e]; exact hx)), fun _ h => .inl h, fun b hb => by
  by_cases e : b = ob
  ·exact ⟨o, by rw [e]; exact ho, hc⟩
  ·obtain ⟨u, h1, h2⟩ := h.cells b hb
   exact ⟨u, (hg.block b (h.lt hb) (fun e2 => e (by injection e2))).trans h1, h2⟩⟩
theorem Bounds_bad (a : Option Addr) (n c : Nat) (ba : Option Addr) (m bc : Nat) (ss : Nat → SV) (bs : Nat → BM) (w : World) (B : Nat) (hBw : B ≤ w.heap.size) (hS : Spans B w a n ss) (hM : Beams B w ba m bs) (hC : checkN n ss m bs ≠ 0) :
  Calls Tryz.prog 19 #[imageV a n c ba m bc] w (BoundsRes n ss m bs w) := by
 have HS := Lib.hid hS
 have HM := Lib.hid hM
 have HR := Hd (fun (w' : World) (hb : Below w.heap.size w w') => show BoundsRes n ss m bs w (.returned (.tuple #[.slice none 0 0, .int .i64 (checkN n ss m bs)])) w' from ⟨hb, by rw [if_neg hC]⟩)
 obtain ⟨E, hE⟩ : ∃ E, E = checkN n ss m bs := ⟨_, rfl⟩
 have HC := Lib.hid hE.symm
 have h1 : (E != 0) = true := by rw [hE]; simpa using hC
 rw [← hE] at HR
 clear hS hM hC hE
 generalize BoundsRes n ss m bs w = RES at *
 go_enter Tryz.func19, Tryz.ntmps19
 go_upto_region 1 with (fail)
 have HLI := Hd (show LI a n c ba m bc w (w.alloc (.cells #[.slice a n c, .slice ba m bc] 59)) from LI_start)
 generalize World.alloc w _ = V at *
 obtain ⟨l0, l1, l2, l3⟩ := HLI.out
 go_wp2_with (go_at_call 51; refine (Check_any a n c ba m bc ss bs _ B (by have := HLI.out.2.2.1; omega) (HS.out.below (HLI.out.2.2.2.mono hBw)) (HM.out.below (HLI.out.2.2.2.mono hBw))).mono ?_; rintro e w1 ⟨rfl, hb⟩; rw [HC.out]; have HLI1 := Hd (LI_step HLI.out hb); obtain ⟨k0, k1, k2, k3⟩ := HLI1.out)
 exact HR.out _ k3
theorem Bounds_ok (a : Option Addr) (n c : Nat) (ba : Option Addr) (m bc : Nat) (ss : Nat → SV) (bs : Nat → BM) (w : World) (B : Nat) (hBw : B ≤ w.heap.size) (hS : Spans B w a n ss) (hM : Beams B w ba m bs) (hC : checkN n ss m bs = 0) :
  Calls Tryz.prog 19 #[imageV a n c ba m bc] w (BoundsRes n ss m bs w) := by
 have HS := Lib.hid hS
 have HM := Lib.hid hM
 have HSh := Hd (checkN_shape hC)
 have HC := Lib.hid hC
 have hn40 := (checkN_shape hC).n40
 have HR1 := Hd (fun (w' : World) (hb : Below w.heap.size w w') (he : allF n ss m bs = []) => show BoundsRes n ss m bs w (.returned (.tuple #[.slice none 0 0, .int .i64 5])) w' from ⟨hb, by rw [if_pos hC, if_pos he]⟩)
 have HR2 := Hd (fun (w' : World) (hb : Below w.heap.size w w') (he : allF n ss m bs ≠ []) ob (h1 : w.heap.size ≤ ob) (h2 : SR 28 w' ob n (fun i => bnd (fun f => fOf f i) (allF n ss m bs))) => show BoundsRes n ss m bs w (.returned (.tuple #[.slice (some ⟨ob, 0, none⟩) n n, .int .i64 0])) w' from ⟨hb, by rw [if_pos hC, if_neg he]; exact ⟨ob, rfl, h1, h2⟩⟩)
 have hmk := make_spans n (by omega)
 clear hS hM hC
 generalize BoundsRes n ss m bs w = RES at *
 refine (callsIn_wide (n := 6)).1 ?_; refine callsIn_of_wp_marks Tryz.func19 rfl trivial ?_ rfl; simp only [Tryz.ntmps19, List.size_toArray, List.length_cons, List.length_nil, Nat.reduceAdd, Nat.reduceSub, Array.replicate_succ, Array.replicate_zero, List.push_toArray, List.append_toArray, List.nil_append, List.cons_append]; refine wpIn_wide.2 ?_
 go_upto_region 1 with (fail)
 have HLI := Hd (show LI a n c ba m bc w (w.alloc (.cells #[.slice a n c, .slice ba m bc] 59)) from LI_start)
 generalize World.alloc w _ = V at *
 obtain ⟨l0, l1, l2, l3⟩ := HLI.out
 go_upto_region 6 with (go_at_call 51; refine (Check_any a n c ba m bc ss bs _ B (by have := HLI.out.2.2.1; omega) (HS.out.below (HLI.out.2.2.2.mono hBw)) (HM.out.below (HLI.out.2.2.2.mono hBw))).mono ?_; rintro e w1 ⟨rfl, hb⟩; rw [HC.out]; have HLI1 := Hd (LI_step HLI.out hb); obtain ⟨k0, k1, k2, k3⟩ := HLI1.out)
 obtain ⟨hVb, hVz, e1, e2, e3⟩ := three_allocs w1 (.cells (madeCells #[.int .i64 0, .int .i64 0] (n * 2)) 28) (.cells #[.slice (some ⟨w1.heap.size, 0, none⟩) n n] 25) (.cells #[.bool false] 4)
 have hM0 := SR.made w1 28 n
 have HSR0 := Hd (show SR 28 (((w1.alloc (.cells (madeCells #[.int .i64 0, .int .i64 0] (n * 2)) 28)).alloc (.cells #[.slice (some ⟨w1.heap.size, 0, none⟩) n n] 25)).alloc (.cells #[.bool false] 4)) w1.heap.size n (fun _ => ⟨0, 0⟩) from (hM0.alloc _).alloc _)
 clear hM0
 have HLI2 := Hd (LI_step HLI1.out hVb)
 generalize World.alloc (World.alloc (World.alloc w1 _) _) _ = V1 at *
 generalize w1.heap.size = ob at *
 have HE := Hd (And.intro e2 e3)
 clear e1 e2 e3 k0 k1 l0 l1 hVb hmk
 obtain ⟨k0, k1, k4, k5⟩ := HLI2.out
 go_wp2_with (first | (go_at_call 52; refine (look_any a n c ba m bc ss bs _ B (by have := HLI2.out.2.2.1; omega) (HS.out.below (HLI2.out.2.2.2.mono hBw)) (HM.out.below (HLI2.out.2.2.2.mono hBw)) HSh.out).mono ?_; intro e w2 hlook; obtain ⟨rfl, hb2, hz2, hSr⟩ := look_fields (t := 127) hlook (HS.out.below (HLI2.out.2.2.2.mono hBw)) (HM.out.below (HLI2.out.2.2.2.mono hBw)) (by have := HLI2.out.2.2.1; omega); have HSR := Lib.hid hSr; have HB2 := Lib.hid hb2; clear hlook hSr hb2) | (go_at_call 53; refine (fields_any _ _).mono ?_; rintro e w' ⟨rfl, rfl⟩))
 clear k0 k1
 have hz2' := HB2.out.size
 have hW3 := alloc_below w2 (.cells #[.pointer (some ⟨ob + 1 + 1 + 1 + 1, 0, none⟩)] 127)
 have hN2 := (hW3.block (ob + 1) (by omega)).trans ((HB2.out.block (ob + 1) (by omega)).trans HE.out.1)
 have hN3 := (hW3.block (ob + 1 + 1) (by omega)).trans ((HB2.out.block (ob + 1 + 1) (by omega)).trans HE.out.2)
 have hb3 : Below w.heap.size w (w2.alloc (.cells #[.pointer (some ⟨ob + 1 + 1 + 1 + 1, 0, none⟩)] 127)) := (k5.trans (HB2.out.mono (by omega))).trans (hW3.mono (by omega))
 have hSR := HSR.out
 have hS0 := (HSR0.out.step HB2.out).step hW3
 rw [hVz] at hSR
 refine wp_fields (Rk B (ob + 1 + 1 + 1) (w2.heap.size + 1)) n ss m bs (ob + 1 + 1 + 1 + 1) w2.heap.size HSh.out hSR (fun b hb => by simp; rcases hb with h | h <;> omega) (.inr ⟨by omega, by omega⟩) (cell_of_row _ _ _ _ _ _ (heap_alloc_new w2 _)) w hb3 rfl rfl
  (fun b => b = ob ∨ b = ob + 1 ∨ b = ob + 1 + 1) ?hX0
  (fun X xs W => X ob ∧ X (ob + 1) ∧ X (ob + 1 + 1) ∧ SR 28 W ob n (fun i => bnd (fun f => fOf f i) (xs.map FX.f)) ∧ W.heap[ob + 1]? = some (.cells #[.slice (some ⟨ob, 0, none⟩) n n] 25) ∧ W.heap[ob + 1 + 1]? = some (.cells #[.bool (!(xs.map FX.f).isEmpty)] 4)) (fun cd X xs W => False)
  ?hT (fun _ _ _ _ _ h _ => h) ?h0 (fun x => ⟨#[imageV a n c ba m bc, .pointer (some ⟨w.heap.size, 0, none⟩), .slice none 0 0, .int .i64 0, .int .i64 0, .pointer (some ⟨ob + 1, 0, none⟩), .pointer (some ⟨ob + 1 + 1, 0, none⟩), .slice x.fa n n, .agg #[.slice a n c, .slice ba m bc], .int .i64 0, .int .i64 0, .bool false, undef, .pointer (some ⟨w.heap.size, 0, none⟩), .slice a n c, .int .i64 n, .slice (some ⟨ob, 0, none⟩) n n, .agg #[.slice a n c, .slice ba m bc], .pointer (some ⟨ob + 1 + 1 + 1 + 1, 0, none⟩), .func (.func 98) #[] #[.pointer (some ⟨w2.heap.size, 0, none⟩)], .slice x.fa n n, .slice x.sa m m, undef, undef, undef, undef, undef, undef, undef], []⟩) ?hassign ?hbody ?hdone ?hstop
 case hX0 =>
  obtain ⟨cur, hcur, _, _⟩ := hS0
  rintro b (rfl | rfl | rfl)
  ·exact ⟨by omega, fun h => by rcases h with h | h <;> omega, _, hcur, rfl⟩
  ·exact ⟨by omega, fun h => by rcases h with h | h <;> omega, _, hN2, rfl⟩
  ·exact ⟨by omega, fun h => by rcases h with h | h <;> omega, _, hN3, rfl⟩
 case hT =>
  rintro X xs W W' ⟨h1, h2, h3, h4, h5, h6⟩ hk
  exact ⟨h1, h2, h3, h4.block (hk _ h1), (hk _ h2).trans h5, (hk _ h3).trans h6⟩
 case h0 => exact ⟨.inl rfl, .inr (.inl rfl), .inr (.inr rfl), hS0, hN2, hN3⟩
 case hassign =>
  intro l x W K hK
  gi_wp2
  exact hK
 case hbody =>
  rintro l pre x O X W hsz hm ⟨hx1, hx2, hx3, ts, t1, t2⟩ hsh hbel hrest
  have c1 : W.cell? ⟨ob + 1, 0, none⟩ = some (.slice (some ⟨ob, 0, none⟩) n n) := cell_of_row _ _ _ _ _ _ t1
  have c2 : W.cell? ⟨ob + 1 + 1, 0, none⟩ = some (.bool (!(pre.map FX.f).isEmpty)) := cell_of_row _ _ _ _ _ _ t2
  obtain ⟨fb, hfa, hfo, hfz, hfc⟩ := hsh.field
  have hfne : fb ≠ ob := fun e => hm.off ob hx1 (by rw [← e]; exact hfo)
  have HCL := Hd (widenB_any ob n n (fun i => bnd (fun f => fOf f i) (pre.map FX.f)) (!(pre.map FX.f).isEmpty) x.fa n n (fOf x.f) (by omega) W ts (fun i hi W' hg => (boundsF_any x.fa n n (fOf x.f) i hi (by omega) W' (.inr ⟨fb, 0, hfa, by have := hg.size; omega, fun j hj => by
   rw [Nat.zero_add]
   exact (World.cell?_of_block (hg.block fb hfz (fun e => hfne (by injection e)))).trans (hfc j hj)⟩)).mono (fun e W'' h => ⟨h.1, by rw [h.2]; exact Below.refl _ _⟩)))
  have HTT := Hd (And.intro t1 t2)
  have HMM := Lib.hid hm
  have hob : ob < W.heap.size := hm.lt hx1
  have hob1 : ob + 1 < W.heap.size := hm.lt hx2
  have hob2 : ob + 1 + 1 < W.heap.size := hm.lt hx3
  clear hfa hfo hfz hfc t1 t2 hm hsh ts hfne
  have HKN := Hd (show (fun i => widS (!(pre.map FX.f).isEmpty) (bnd (fun f => fOf f i) (pre.map FX.f)) (fOf x.f i)) = (fun i => bnd (fun f => fOf f i) ((pre ++ [x]).map FX.f)) from by
   funext i
   rw [List.map_append, List.map_singleton]
   exact wid_bnd (fun f => fOf f i) _ _)
  have HKE := Hd (show (!((pre ++ [x]).map FX.f).isEmpty) = true from by simp)
  rw [HKN.out] at HCL
  generalize (!(pre.map FX.f).isEmpty) = kn at *
  gi_wp2_with (fail)
  refine ⟨trivial, CallsIn.inRound l ((callsIn_wide.2 HCL.out).mono ?_)⟩
  rintro e W4 ⟨rfl, hg4, hs4⟩
  have q1 := (hg4.block (ob + 1) hob1 (by simp)).trans HTT.out.1
  have q2 := (hg4.block (ob + 1 + 1) hob2 (by simp; omega)).trans HTT.out.2
  have d2 : W4.cell? ⟨ob + 1 + 1, 0, none⟩ = some (.bool kn) := cell_of_row _ _ _ _ _ _ q2
  have f2 : W4.frozen? ⟨ob + 1 + 1, 0, none⟩ = false := frozen_of_row _ _ _ _ _ q2
  have HTX := Hd (show ∃ X', BodyStep X W (W4.setCell ⟨ob + 1 + 1, 0, none⟩ (.bool true)) X' ∧ X' ob ∧ X' (ob + 1) ∧ X' (ob + 1 + 1) ∧ SR 28 (W4.setCell ⟨ob + 1 + 1, 0, none⟩ (.bool true)) ob n (fun i => bnd (fun f => fOf f i) ((pre ++ [x]).map FX.f)) ∧ (W4.setCell ⟨ob + 1 + 1, 0, none⟩ (.bool true)).heap[ob + 1]? = some (.cells #[.slice (some ⟨ob, 0, none⟩) n n] 25) ∧ (W4.setCell ⟨ob + 1 + 1, 0, none⟩ (.bool true)).heap[ob + 1 + 1]? = some (.cells #[.bool (!((pre ++ [x]).map FX.f).isEmpty)] 4) from by
   obtain ⟨cur, hcur, _, _⟩ := id hs4
   refine ⟨X, (BodyStep.grown HMM.out hg4 hx1 hcur rfl).setCell hx3 _, hx1, hx2, hx3, hs4.other (by omega) _, (heap_setCell_other W4 ⟨ob + 1 + 1, 0, none⟩ (ob + 1) _ (by show ob + 1 ≠ ob + 1 + 1; omega)).trans q1, ?_⟩
   rw [HKE.out]
   exact heap_setCell_same W4 _ 0 _ _ _ q2)
  clear q1 q2 hg4 hs4 HTT HCL HKN HKE c1 c2
  dsimp only
  gi_wp2
  exact HTX.out
 case hdone =>
  rintro D xs X W hD hDl hDX hxs ⟨hx1, hx2, hx3, ts, t1, t2⟩ hbel hDD
  rw [hxs] at ts t2
  have c1 : W.cell? ⟨ob + 1, 0, none⟩ = some (.slice (some ⟨ob, 0, none⟩) n n) := cell_of_row _ _ _ _ _ _ t1
  have hD1 : ob ≠ D := fun e => hDX (by rw [← e]; exact hx1)
  have HDD := Lib.hid hDD
  have HBE := Lib.hid hbel
  have hDw : w.heap.size ≤ D := Nat.le_trans hb3.size hD
  by_cases he : allF n ss m bs = []
  ·have c2 : W.cell? ⟨ob + 1 + 1, 0, none⟩ = some (.bool false) := by rw [he] at t2; exact cell_of_row _ _ _ _ _ _ t2
   have HRR := Hd (fun o' => HR1.out (W.putObj D o') (below_put hbel hDw o') he)
   clear hxs t1 t2 ts hDD hbel he
   go_wp2
   exact leave_marked (v := .tuple #[.slice none 0 0, .int .i64 5]) HDD.out (fun o' => ⟨by exact results_tmp2 (t := 2) (u := 3) rfl _ _ _, HRR.out o'⟩)
  ·have c2 : W.cell? ⟨ob + 1 + 1, 0, none⟩ = some (.bool true) := by
    rw [show (!(allF n ss m bs).isEmpty) = true by cases e : allF n ss m bs; exact absurd e he; rfl] at t2
    exact cell_of_row _ _ _ _ _ _ t2
   have HRR := Hd (fun o' => HR2.out (W.putObj D o') (below_put hbel hDw o') he ob (by omega) (ts.block (World.putObj_heap_other hD1)))
   clear hxs t1 t2 ts hDD hbel he
   go_wp2
   exact leave_marked (v := .tuple #[.slice (some ⟨ob, 0, none⟩) n n, .int .i64 0]) HDD.out (fun o' => ⟨by exact results_tmp2 (t := 2) (u := 3) rfl _ _ _, HRR.out o'⟩)
 case hstop =>
  rintro D cd pre X W hD hDl hDX hk h
  exact h.elim
theorem Bounds_any (a : Option Addr) (n c : Nat) (ba : Option Addr) (m bc : Nat) (ss : Nat → SV) (bs : Nat → BM) (w : World) (B : Nat) (hBw : B ≤ w.heap.size) (hS : Spans B w a n ss) (hM : Beams B w ba m bs) :
  Calls Tryz.prog 19 #[imageV a n c ba m bc] w (BoundsRes n ss m bs w) := by
 by_cases hC : checkN n ss m bs = 0
 ·exact Bounds_ok a n c ba m bc ss bs w B hBw hS hM hC
 ·exact Bounds_bad a n c ba m bc ss bs w B hBw hS hM hC
end Go.Proofs.YtgmpelhphnmknaaGreat
