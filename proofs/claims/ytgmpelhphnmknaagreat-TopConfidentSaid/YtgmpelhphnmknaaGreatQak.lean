/- Texts put together: RkG, RkH. -/
import Derived.Deep.AppendLies
import Derived.OwnWalkIn
import Derived.Test.YtgmpelhphnmknaaGreatQaj
import Derived.Test.YtgmpelhphnmknaaGreatQad
set_option maxRecDepth 100000
set_option maxHeartbeats 8000000
set_option linter.unusedVariables false
set_option linter.unusedSimpArgs false
namespace Go.Proofs.YtgmpelhphnmknaaGreat
open Go.RowKit Go.Shelf
attribute [local go_sem] Oper.semAt_some
theorem rk_append_lies {F : Fence} {n : Nat} {P : Program} (w : World) {ops : Array Oper} {rest : List Oper} {o : Oper} {a : Act} {Q : Exit → Act → World → Prop}
  (hg : o.guard = none) (s x : Operand) (t : TypeId) (hop : o.op = Op.call { callee := Callee.builtin Builtin.append, args := #[s, x], argTypes := #[t, t] })
  (base : Nat) (e : TypeId) (i : TypeInfo) (z : Value) (size bytes : Nat) (h1 : P.underlying t = some (.slice e)) (h2 : P.info? e = some i) (h3 : i.zero = some z) (h4 : i.size = size) (h5 : i.bytes = bytes) (h6 : z.cells.size = size) (h7 : 0 < size)
  (v : Value) (k : Nat) (xs : List Value) (hs : a.eval s = v) (hown : w.ownsRow base e size v k xs) (ad : Addr) (m c : Nat) (news : List Value) (hx : a.eval x = .slice (some ad) m c) (hn : news.length = m * size)
  (hc : ∀ j u, news[j]? = some u → w.cell? (ad.add j) = some u) (h1c : ∀ u ∈ news, u.oneCell' = true) (hm : 0 < m) (b1 : k + m ≤ maxLen) (b2 : (k + m) * bytes ≤ 140737488355328) (b3 : base ≤ w.heap.size) (H : Nat) (hH : w.heap.size = H)
  (hK : ∀ g cap w', w'.ownsRow base e size (.slice (some ⟨g, 0, none⟩) (k + m) cap) (k + m) (xs ++ news) → w.grownBy w' v.ownBlock → (v.ownBlock = some g ∨ g = H) → g < w'.heap.size → wpListIn F n P ops Q rest (a.put o.dst (.slice (some ⟨g, 0, none⟩) (k + m) cap)) w') :
  wpListIn F n P ops Q (o :: rest) a w := by
 refine wpListIn_plain hg fun K hK' => ?_
 obtain ⟨g, cap, w', hrun, r1, r2, r3, r4⟩ := run_append_lies (P := P) w t o.type base e i z size bytes h1 h2 h3 h4 h5 h6 h7 v k xs hown ad m c news hn hc h1c hm b1 b2 b3 H hH
 unfold Oper.wpIn
 refine ⟨?_, ?_⟩
 ·simp [Oper.about, hop, resolve, Target.leads, Sem.run_pure]
 ·rw [Oper.semAt_plain F _ _ (by rw [hop]; intro c hc'; cases hc')]
  simp [execOp, hop, resolve, invoke, builtin, hs, hx, hrun, Result.andThen]
  exact hK' _ _ (hK g cap w' r1 r2 r3 r4)
def PT.cells (p : PT) : List Value := [.int .i64 p.cell, .int .i64 p.lo, .int .i64 p.hi]
def ptC : List PT → List Value
 | [] => []
 | x :: t => x.cells ++ ptC t
theorem ptC_append : ∀ (a b : List PT), ptC (a ++ b) = ptC a ++ ptC b
 | [], b => rfl
 | h :: t, b => by rw [List.cons_append, ptC, ptC, ptC_append t b, List.append_assoc]
theorem ptC_one (x : PT) : ptC [x] = x.cells := by simp [ptC]
theorem ptC_get : ∀ (l : List PT) (i s : Nat) (z : PT), i < l.length → s < 3 → (ptC l)[i * 3 + s]? = (l.getD i z).cells[s]?
 | [], i, s, z, h, _ => by simp at h
 | h :: t, 0, s, z, _, hr => by
  rw [ptC, List.getElem?_append_left (by simp [PT.cells]; omega)]
  simp
 | h :: t, i + 1, s, z, hi, hr => by
  have e : (i + 1) * 3 + s - 3 = i * 3 + s := by omega
  rw [ptC, List.getElem?_append_right (by simp [PT.cells]; omega)]
  have : h.cells.length = 3 := rfl
  rw [this, e, ptC_get t i s z (by simpa using hi) hr]
  simp
theorem info_part : (Tryz.prog.info? 209).map (fun i => (i.zero, i.size, i.bytes)) = some (some (.agg #[.int .i64 0, .int .i64 0, .int .i64 0]), 3, 24) := by kernel_rfl
theorem pt_one {a b c : Int} : ∀ u ∈ [Value.int .i64 a, .int .i64 b, .int .i64 c], u.oneCell' = true := by
 intro u hu
 simp at hu
 rcases hu with rfl | rfl | rfl <;> rfl
def lastF (v : VO) (r : RY) : Nat → Int
 | 0 => -1
 | k + 1 => atF v r k
theorem one_len (v : VO) (r : RY) (g : Nat → Int) (p q : Int) : (oneF v r g p q).length ≤ 1 := by
 unfold oneF
 split
 ·simp
 ·split <;> simp
theorem prN_len (v : VO) (r : RY) (g : Nat → Int) : ∀ k, (prN v r g k).length ≤ k
 | 0 => by simp [prN]
 | 1 => by simp [prN]
 | k + 2 => by
  have h1 := prN_len v r g (k + 1)
  have h2 := one_len v r g (atF v r k) (atF v r (k + 1))
  rw [prN, List.length_append]
  omega
structure PaT (v : VO) (r : RY) (g : Nat → Int) (wb kb ob lb : Nat) (cb cc : Nat) (X : Nat → Prop) (xs : List Nat) (W : World) : Prop where
 xw : X wb
 xk : X kb
 xo : X ob
 xl : X lb
 wk : WkAt v r wb W
 kx : W.heap[kb]? = some (.cells #[.slice (some ⟨cb, 0, none⟩) 1 cc] 234)
 last : W.heap[lb]? = some (.cells #[.int .i64 (lastF v r xs.length)] 3)
 row : ∃ vv, W.heap[ob]? = some (.cells #[vv] 183) ∧ W.ownsRow (lb + 1) 209 3 vv (prN v r g xs.length).length (ptC (prN v r g xs.length)) ∧ ∀ b, vv.ownBlock = some b → X b
theorem PaT.keep {v : VO} {r : RY} {g : Nat → Int} {wb kb ob lb cb cc : Nat} {X : Nat → Prop} {xs : List Nat} {W W' : World} (h : PaT v r g wb kb ob lb cb cc X xs W) (hk : ∀ b, X b → W'.heap[b]? = W.heap[b]?) : PaT v r g wb kb ob lb cb cc X xs W' := by
 obtain ⟨vv, h1, h2, h3⟩ := h.row
 exact ⟨h.xw, h.xk, h.xo, h.xl, (hk _ h.xw).trans h.wk, (hk _ h.xk).trans h.kx, (hk _ h.xl).trans h.last, vv, (hk _ h.xo).trans h1, own_keep h2 (fun b hb => hk b (h3 b hb)), h3⟩
section
variable {v : VO} {r : RY} {g : Nat → Int} {q0 cb cc y : Nat} {R X O : Nat → Prop} {pre : List Nat} {W W2 : World}
theorem pa_skip (hT : PaT v r g q0 (q0 + 1) (q0 + 1 + 1) (q0 + 1 + 1 + 1) cb cc X pre W) (hm : Mine R X O W) (hl : pre.length = y + 1) (hone : prN v r g (y + 2) = prN v r g (y + 1)) (hb : Below W.heap.size W W2) :
  ∃ X', BodyStep X W (W2.setCell ⟨q0 + 1 + 1 + 1, 0, none⟩ (.int .i64 (atF v r (y + 1)))) X' ∧ PaT v r g q0 (q0 + 1) (q0 + 1 + 1) (q0 + 1 + 1 + 1) cb cc X' (pre ++ [y + 1]) (W2.setCell ⟨q0 + 1 + 1 + 1, 0, none⟩ (.int .i64 (atF v r (y + 1)))) := by
 have hn : (pre ++ [y + 1]).length = y + 2 := by rw [List.length_append, hl]; rfl
 refine ⟨X, (BodyStep.below hm hb).setCell hT.xl _, ?_⟩
 obtain ⟨vv, r1, r2, r3⟩ := hT.row
 rw [hl] at r2
 have hk : ∀ b, X b → W2.heap[b]? = W.heap[b]? := fun b hx => hb.block b (hm.lt hx)
 have hot : ∀ k, k ≠ q0 + 1 + 1 + 1 → (W2.setCell ⟨q0 + 1 + 1 + 1, 0, none⟩ (.int .i64 (atF v r (y + 1)))).heap[k]? = W2.heap[k]? := fun k hk => heap_setCell_other W2 ⟨q0 + 1 + 1 + 1, 0, none⟩ k _ hk
 refine ⟨hT.xw, hT.xk, hT.xo, hT.xl, (hot _ (by omega)).trans ((hk _ hT.xw).trans hT.wk), (hot _ (by omega)).trans ((hk _ hT.xk).trans hT.kx), ?_, vv, (hot _ (by omega)).trans ((hk _ hT.xo).trans r1), ?_, r3⟩
 ·rw [hn]
  exact heap_setCell_same W2 (q0 + 1 + 1 + 1) 0 _ _ _ ((hk _ hT.xl).trans hT.last)
 ·rw [hn, hone]
  exact own_keep r2 (fun b hb => (hot b (by have := own_block_le r2 hb; omega)).trans (hk b (r3 b hb)))
theorem pa_add {vv : Value} {p : PT} {W5 : World} {g1 cp : Nat} {o : Obj} (hT : PaT v r g q0 (q0 + 1) (q0 + 1 + 1) (q0 + 1 + 1 + 1) cb cc X pre W) (hm : Mine R X O W) (hl : pre.length = y + 1) (hone : prN v r g (y + 2) = prN v r g (y + 1) ++ [p]) (hb : Below W.heap.size W W2)
  (r1 : W.heap[q0 + 1 + 1]? = some (.cells #[vv] 183)) (r2 : W.ownsRow (q0 + 1 + 1 + 1 + 1) 209 3 vv (prN v r g (y + 1)).length (ptC (prN v r g (y + 1)))) (r3 : ∀ b, vv.ownBlock = some b → X b)
  (ho : W5.ownsRow (q0 + 1 + 1 + 1 + 1) 209 3 (.slice (some ⟨g1, 0, none⟩) ((prN v r g (y + 1)).length + 1) cp) ((prN v r g (y + 1)).length + 1) (ptC (prN v r g (y + 1)) ++ p.cells)) (hg : (W2.alloc o).grownBy W5 vv.ownBlock) (hat : vv.ownBlock = some g1 ∨ g1 = (W2.alloc o).heap.size) (hlt : g1 < W5.heap.size) :
  ∃ X', BodyStep X W ((W5.setCell ⟨q0 + 1 + 1, 0, none⟩ (.slice (some ⟨g1, 0, none⟩) ((prN v r g (y + 1)).length + 1) cp)).setCell ⟨q0 + 1 + 1 + 1, 0, none⟩ (.int .i64 (atF v r (y + 1)))) X' ∧ PaT v r g q0 (q0 + 1) (q0 + 1 + 1) (q0 + 1 + 1 + 1) cb cc X' (pre ++ [y + 1]) ((W5.setCell ⟨q0 + 1 + 1, 0, none⟩ (.slice (some ⟨g1, 0, none⟩) ((prN v r g (y + 1)).length + 1) cp)).setCell ⟨q0 + 1 + 1 + 1, 0, none⟩ (.int .i64 (atF v r (y + 1)))) := by
 have hn : (pre ++ [y + 1]).length = y + 2 := by rw [List.length_append, hl]; rfl
 have hz2 := hb.size
 have hz3 : (W2.alloc o).heap.size = W2.heap.size + 1 := by simp
 have hz5 := hg.size
 have hmn : ∀ b, vv.ownBlock = some b → q0 + 1 + 1 + 1 < b := fun b hb => by have := own_block_le r2 hb; omega
 have hk5 : ∀ b, b < W.heap.size → vv.ownBlock ≠ some b → W5.heap[b]? = W.heap[b]? := fun b h1 h2 => (hg.block b (by omega) (Ne.symm h2)).trans ((Below.heap_alloc W2 o b (by omega)).trans (hb.block b h1))
 have hne : ∀ b, b ≤ q0 + 1 + 1 + 1 → vv.ownBlock ≠ some b := fun b h1 h2 => by have := hmn b h2; omega
 have hgq : q0 + 1 + 1 + 1 < g1 := by
  rcases hat with h | h
  ·exact hmn _ h
  ·have := hm.lt hT.xl; omega
 generalize hW6 : (W5.setCell ⟨q0 + 1 + 1, 0, none⟩ (.slice (some ⟨g1, 0, none⟩) ((prN v r g (y + 1)).length + 1) cp)).setCell ⟨q0 + 1 + 1 + 1, 0, none⟩ (.int .i64 (atF v r (y + 1))) = W6
 have hot : ∀ k, k ≠ q0 + 1 + 1 → k ≠ q0 + 1 + 1 + 1 → W6.heap[k]? = W5.heap[k]? := fun k h1 h2 => by
  rw [← hW6]
  exact (heap_setCell_other _ ⟨q0 + 1 + 1 + 1, 0, none⟩ k _ h2).trans (heap_setCell_other W5 ⟨q0 + 1 + 1, 0, none⟩ k _ h1)
 have hsz : W6.heap.size = W5.heap.size := by rw [← hW6]; simp
 have k1 : W6.heap[q0 + 1 + 1]? = some (.cells #[.slice (some ⟨g1, 0, none⟩) ((prN v r g (y + 1)).length + 1) cp] 183) := by
  rw [← hW6]
  refine (heap_setCell_other _ ⟨q0 + 1 + 1 + 1, 0, none⟩ (q0 + 1 + 1) _ (by show q0 + 1 + 1 ≠ q0 + 1 + 1 + 1; omega)).trans ?_
  exact heap_setCell_same W5 (q0 + 1 + 1) 0 _ _ _ ((hk5 _ (hm.lt hT.xo) (hne _ (by omega))).trans r1)
 have k2 : W6.heap[q0 + 1 + 1 + 1]? = some (.cells #[.int .i64 (atF v r (y + 1))] 3) := by
  rw [← hW6]
  refine heap_setCell_same _ (q0 + 1 + 1 + 1) 0 _ _ _ ((heap_setCell_other W5 ⟨q0 + 1 + 1, 0, none⟩ (q0 + 1 + 1 + 1) _ (by show q0 + 1 + 1 + 1 ≠ q0 + 1 + 1; omega)).trans ((hk5 _ (hm.lt hT.xl) (hne _ (by omega))).trans hT.last))
 have hrow : W6.ownsRow (q0 + 1 + 1 + 1 + 1) 209 3 (.slice (some ⟨g1, 0, none⟩) ((prN v r g (y + 1)).length + 1) cp) ((prN v r g (y + 1)).length + 1) (ptC (prN v r g (y + 1)) ++ p.cells) := own_keep ho (fun b hb => by
  have : g1 = b := by simpa [Value.ownBlock] using hb
  exact hot b (by omega) (by omega))
 have hgc : ∃ u, W6.heap[g1]? = some u ∧ u.isCells = true := by
  rcases hrow.2 with ⟨h1, _⟩ | ⟨g2, cap2, cur, h1, _, h3, _⟩
  ·cases h1
  ·injection h1 with h1
   injection h1 with h1
   injection h1 with h1
   subst h1
   exact ⟨_, h3, rfl⟩
 have hos : W6.os = W5.os ∧ W6.tape = W5.tape ∧ W6.output = W5.output := by rw [← hW6]; exact ⟨rfl, rfl, rfl⟩
 refine ⟨fun b => (X b ∧ vv.ownBlock ≠ some b) ∨ b = g1, ⟨hos.1.trans (hg.os.trans hb.os), hos.2.1.trans (hg.tape.trans hb.tape), hos.2.2.trans (hg.output.trans hb.output), by omega, fun b h1 h2 => ?_, fun b h1 => ?_, fun b h1 => ?_⟩, ?_⟩
 ·refine (hot b (fun e => h2 (by rw [e]; exact hT.xo)) (fun e => h2 (by rw [e]; exact hT.xl))).trans (hk5 b h1 (fun e => h2 (r3 b e)))
 ·rcases h1 with h1 | h1
  ·exact .inl h1.1
  ·rcases hat with h | h
   ·exact .inl (by rw [h1]; exact r3 _ h)
   ·exact .inr (by omega)
 ·rcases h1 with ⟨h1, h2⟩ | h1
  ·by_cases e1 : b = q0 + 1 + 1
   ·exact ⟨_, by rw [e1]; exact k1, rfl⟩
   ·by_cases e2 : b = q0 + 1 + 1 + 1
    ·exact ⟨_, by rw [e2]; exact k2, rfl⟩
    ·obtain ⟨u, h3, h4⟩ := hm.cells b h1
     exact ⟨u, (hot b e1 e2).trans ((hk5 b (hm.lt h1) h2).trans h3), h4⟩
  ·rw [h1]; exact hgc
 ·refine ⟨.inl ⟨hT.xw, hne _ (by omega)⟩, .inl ⟨hT.xk, hne _ (by omega)⟩, .inl ⟨hT.xo, hne _ (by omega)⟩, .inl ⟨hT.xl, hne _ (by omega)⟩, (hot _ (by omega) (by omega)).trans ((hk5 _ (hm.lt hT.xw) (hne _ (by omega))).trans hT.wk), (hot _ (by omega) (by omega)).trans ((hk5 _ (hm.lt hT.xk) (hne _ (by omega))).trans hT.kx), by rw [hn]; exact k2, _, k1, ?_, fun b hb => .inr ?_⟩
  ·rw [hn, hone, ptC_append, ptC_one, List.length_append, List.length_singleton]
   exact hrow
  ·have : g1 = b := by simpa [Value.ownBlock] using hb
   exact this.symm
end
theorem rk_four (W : World) (o1 o2 o3 o4 : Obj) : Below W.heap.size W ((((W.alloc o1).alloc o2).alloc o3).alloc o4) ∧ ((((W.alloc o1).alloc o2).alloc o3).alloc o4).heap.size = W.heap.size + 1 + 1 + 1 + 1 ∧ ((((W.alloc o1).alloc o2).alloc o3).alloc o4).heap[W.heap.size]? = some o1 ∧ ((((W.alloc o1).alloc o2).alloc o3).alloc o4).heap[W.heap.size + 1]? = some o2 ∧ ((((W.alloc o1).alloc o2).alloc o3).alloc o4).heap[W.heap.size + 1 + 1]? = some o3 ∧ ((((W.alloc o1).alloc o2).alloc o3).alloc o4).heap[W.heap.size + 1 + 1 + 1]? = some o4 := four_allocs W o1 o2 o3 o4
theorem rkparts_any (v : VO) (r : RY) (hv : v.Ok) (hr : r.Ok) (g : Nat → Int) (gn gb qb cb cc : Nat) (w : World) (hq : WkAt v r qb w) (hg : GrAt v g gn gb w) (hc : w.cell? ⟨cb, 0, none⟩ = some (.func (.func 136) #[] #[.pointer (some ⟨gb, 0, none⟩), .pointer (some ⟨qb, 0, none⟩)])) (hcb : cb < w.heap.size) :
  Calls Tryz.prog 91 #[wkVal v r, .slice (some ⟨cb, 0, none⟩) 1 cc] w fun e w' => ∃ m pa pc, IsM v r m ∧ e = .returned (.slice pa (prN v r g (m + 1)).length pc) ∧ w'.ownsRow w.heap.size 209 3 (.slice pa (prN v r g (m + 1)).length pc) (prN v r g (m + 1)).length (ptC (prN v r g (m + 1))) ∧ Below w.heap.size w w' := by
 have HCR := Hd (fun (W : World) => crossings_any v r W)
 unfold wkVal at HCR
 unfold wkVal
 refine (callsIn_wide (n := 6)).1 ?_; refine callsIn_of_wp_marks Tryz.func91 rfl trivial ?_ rfl; simp only [Tryz.ntmps91, List.size_toArray, List.length_cons, List.length_nil, Nat.reduceAdd, Nat.reduceSub, Array.replicate_succ, Array.replicate_zero, List.push_toArray, List.append_toArray, List.nil_append, List.cons_append]; refine wpIn_wide.2 ?_
 go_upto_region 3 with (fail)
 obtain ⟨hVb, hVz, e1, e2, e3, e4⟩ := rk_four w (.cells #[.int .i64 v.nx, .int .i64 v.ny, .int .i64 v.nz, .int .i64 v.size, .int .i64 r.x, .int .i64 r.dx, .int .i64 v.nx, .int .i64 r.y, .int .i64 r.dy, .int .i64 v.ny, .int .i64 r.z, .int .i64 r.dz, .int .i64 v.nz, .int .i64 (tkF r : Int)] 150) (.cells #[.slice (some ⟨cb, 0, none⟩) 1 cc] 234) (.cells #[.slice none 0 0] 183) (.cells #[.int .i64 (-1)] 3)
 have HQ := Hd (show WkAt v r w.heap.size ((((w.alloc (.cells #[.int .i64 v.nx, .int .i64 v.ny, .int .i64 v.nz, .int .i64 v.size, .int .i64 r.x, .int .i64 r.dx, .int .i64 v.nx, .int .i64 r.y, .int .i64 r.dy, .int .i64 v.ny, .int .i64 r.z, .int .i64 r.dz, .int .i64 v.nz, .int .i64 (tkF r : Int)] 150)).alloc (.cells #[.slice (some ⟨cb, 0, none⟩) 1 cc] 234)).alloc (.cells #[.slice none 0 0] 183)).alloc (.cells #[.int .i64 (-1)] 3)) from e1)
 have HB := Lib.hid hVb
 have HE2 := Lib.hid e2
 have HE3 := Lib.hid e3
 have HE4 := Lib.hid e4
 have HVZ := Lib.hid hVz
 clear hVb hVz e1 e2 e3 e4
 generalize World.alloc (World.alloc (World.alloc (World.alloc w _) _) _) _ = V at *
 obtain ⟨c0, c1, c2, c3, c4, c5, c6, c7, c8, c9, c10, c11, c12, c13⟩ := cr14 HQ.out
 go_wp2_with (go_at_call 134; refine (HCR.out _).mono ?_; rintro e w2 ⟨rfl, hwk2, hb2⟩)
 clear c0 c1 c2 c3 c4 c5 c6 c7 c8 c9 c10 c11 c12 c13
 have hb3 := HB.out.trans (hb2.mono HB.out.size)
 have hz2 := hb2.size
 have k1 := (hb2.block (w.heap.size) (by have := HVZ.out; omega)).trans HQ.out
 have k2 := (hb2.block (w.heap.size + 1) (by have := HVZ.out; omega)).trans HE2.out
 have k3 := (hb2.block (w.heap.size + 1 + 1) (by have := HVZ.out; omega)).trans HE3.out
 have k4 := (hb2.block (w.heap.size + 1 + 1 + 1) (by have := HVZ.out; omega)).trans HE4.out
 have hVq := hwk2.lt
 refine wp_cross v r hv hr V.heap.size hwk2 w hb3 rfl rfl (fun b => b = w.heap.size ∨ b = w.heap.size + 1 ∨ b = w.heap.size + 1 + 1 ∨ b = w.heap.size + 1 + 1 + 1) ?hX0 (PaT v r g w.heap.size (w.heap.size + 1) (w.heap.size + 1 + 1) (w.heap.size + 1 + 1 + 1) cb cc) (fun X xs W W' h hk => h.keep hk) ?h0 (fun x => ⟨#[Value.agg #[.int .i64 v.nx, .int .i64 v.ny, .int .i64 v.nz, .int .i64 v.size, .int .i64 r.x, .int .i64 r.dx, .int .i64 v.nx, .int .i64 r.y, .int .i64 r.dy, .int .i64 v.ny, .int .i64 r.z, .int .i64 r.dz, .int .i64 v.nz, .int .i64 (tkF r : Int)], .slice (some ⟨cb, 0, none⟩) 1 cc, .pointer (some ⟨w.heap.size, 0, none⟩), .pointer (some ⟨w.heap.size + 1, 0, none⟩), .slice none 0 0, .pointer (some ⟨w.heap.size + 1 + 1, 0, none⟩), .pointer (some ⟨w.heap.size + 1 + 1 + 1, 0, none⟩), .int .i64 (atF v r x), undef, undef, undef, undef, Value.agg #[.int .i64 v.nx, .int .i64 v.ny, .int .i64 v.nz, .int .i64 v.size, .int .i64 r.x, .int .i64 r.dx, .int .i64 v.nx, .int .i64 r.y, .int .i64 r.dy, .int .i64 v.ny, .int .i64 r.z, .int .i64 r.dz, .int .i64 v.nz, .int .i64 (tkF r : Int)], .func (.func 182) #[] #[.pointer (some ⟨V.heap.size, 0, none⟩)], .int .i64 (atF v r x), undef, undef, undef, undef, undef, undef, undef, undef, undef, undef, undef, undef, undef, undef, undef, undef, undef, undef, undef, undef, undef, undef, undef, undef, undef, undef, undef, undef, undef, undef, undef, undef, undef], []⟩) ?hassign ?hbody ?hdone
 case hX0 =>
  rintro b (rfl | rfl | rfl | rfl)
  ·exact ⟨by omega, by have := HVZ.out; omega, _, k1, rfl⟩
  ·exact ⟨by omega, by have := HVZ.out; omega, _, k2, rfl⟩
  ·exact ⟨by omega, by have := HVZ.out; omega, _, k3, rfl⟩
  ·exact ⟨by omega, by have := HVZ.out; omega, _, k4, rfl⟩
 case h0 => exact ⟨.inl rfl, .inr (.inl rfl), .inr (.inr (.inl rfl)), .inr (.inr (.inr rfl)), k1, k2, k4, _, k3, World.ownsRow_nil _ _ _ _, fun b hb => by cases hb⟩
 case hassign =>
  intro l x W K hK
  unfold enX
  gi_wp2
  exact hK
 case hbody =>
  clear hb3 hz2 k1 k2 k3 k4 hVq hwk2 hb2 HE2 HE3 HE4 HVZ HQ HB HCR
  rintro l pre x O X W hsz hm ht hbel hwk hpre hge
  have hpl : pre.length = x := by rw [hpre]; simp
  have HM := Lib.hid hm
  have HT := Lib.hid ht
  have HBE := Lib.hid hbel
  have HPL := Lib.hid hpl
  have HG := Hd (hg.step (show Below w.heap.size w W from hbel))
  have HQB := Hd (hq.step (show Below w.heap.size w W from hbel))
  have hcW := ((bcell hbel).1 cb 0 hcb).trans hc
  have hcl : cb < W.heap.size := by have := hbel.size; omega
  have hxl := ht.xl
  have hxo := ht.xo
  have lz := hm.lt ht.xl
  have oz := hm.lt ht.xo
  have wz := hm.lt ht.xw
  have l0 := cell_of_row _ _ 0 _ _ _ ht.last
  have lf := frozen_of_row _ _ 0 _ _ ht.last
  rw [hpl] at l0
  have HGE := Lib.hid hge
  cases x with
  | zero =>
   have l1 : W.cell? ⟨w.heap.size + 1 + 1 + 1, 0, none⟩ = some (.int .i64 (-1)) := l0
   clear l0 hm ht hbel hwk hpre hge hpl hcW hcl
   have HF := Hd (show ∃ X', BodyStep X W (W.setCell ⟨w.heap.size + 1 + 1 + 1, 0, none⟩ (.int .i64 (atF v r 0))) X' ∧ PaT v r g w.heap.size (w.heap.size + 1) (w.heap.size + 1 + 1) (w.heap.size + 1 + 1 + 1) cb cc X' (pre ++ [0]) (W.setCell ⟨w.heap.size + 1 + 1 + 1, 0, none⟩ (.int .i64 (atF v r 0))) from by
    have hn : (pre ++ [0]).length = 1 := by rw [List.length_append, HPL.out]; rfl
    refine ⟨X, (BodyStep.refl HM.out).setCell hxl _, ?_⟩
    obtain ⟨vv, r1, r2, r3⟩ := HT.out.row
    rw [HPL.out] at r2
    have hot : ∀ k, k ≠ w.heap.size + 1 + 1 + 1 → (W.setCell ⟨w.heap.size + 1 + 1 + 1, 0, none⟩ (.int .i64 (atF v r 0))).heap[k]? = W.heap[k]? := fun k hk => heap_setCell_other W ⟨w.heap.size + 1 + 1 + 1, 0, none⟩ k _ hk
    refine ⟨HT.out.xw, HT.out.xk, HT.out.xo, HT.out.xl, (hot _ (by omega)).trans HT.out.wk, (hot _ (by omega)).trans HT.out.kx, ?_, vv, (hot _ (by omega)).trans r1, ?_, r3⟩
    ·rw [hn]
     exact heap_setCell_same W (w.heap.size + 1 + 1 + 1) 0 _ _ _ HT.out.last
    ·rw [hn]
     exact own_keep r2 (fun b hb => hot b (by have := own_block_le r2 hb; omega)))
   gi_wp2
   exact HF.out
  | succ y =>
   have l1 : W.cell? ⟨w.heap.size + 1 + 1 + 1, 0, none⟩ = some (.int .i64 (atF v r y)) := l0
   have hy0 := hge y (by omega)
   obtain ⟨ha1, ha2⟩ := atF_low hv hr y
   obtain ⟨hb1', hb2'⟩ := atF_low hv hr (y + 1)
   have HCE := Hd (fun (W : World) => cell_any v r (atF v r y) (atF v r (y + 1)) W hv hr ⟨ha1, ha2⟩ ⟨hb1', hb2'⟩)
   have HCB := Hd (cell_bound hv hr (atF v r y) (atF v r (y + 1)))
   have HUP := Hd (atF_up hv hr (y + 1) hge)
   obtain ⟨c0, c1, c2, c3, c4, c5, c6, c7, c8, c9, c10, c11, c12, c13⟩ := cr14 HT.out.wk
   unfold wkVal at HCE
   clear l0 hm ht hbel hwk hpre hge hpl
   gi_upto_region 7 with (refine ⟨trivial, CallsIn.inRound l ((callsIn_wide.2 (HCE.out _)).mono ?_)⟩; rintro e W1 ⟨rfl, hb1⟩)
   clear c0 c1 c2 c3 c4 c5 c6 c7 c8 c9 c10 c11 c12 c13
   obtain ⟨hcb1, hcb2⟩ := HCB.out
   have hn600 := hv.cells
   have l2 := ((bcell hb1).1 _ 0 lz).trans l1
   have HSK := Hd (fun (hone : oneF v r g (atF v r y) (atF v r (y + 1)) = []) (W2 : World) (hb : Below W.heap.size W W2) => pa_skip HT.out HM.out HPL.out (show prN v r g (y + 2) = prN v r g (y + 1) from by rw [prN, hone, List.append_nil]) hb)
   by_cases hneg : cellF v r (atF v r y) (atF v r (y + 1)) < 0
   ·have HF := Hd (HSK.out (by unfold oneF; rw [if_pos hneg]) W1 hb1)
    have lf2 : W1.frozen? ⟨w.heap.size + 1 + 1 + 1, 0, none⟩ = false := frozen_of_row _ _ 0 _ _ ((hb1.block _ lz).trans HT.out.last)
    generalize cellF v r (atF v r y) (atF v r (y + 1)) = c at *
    clear HCE HCB HUP HSK l1
    gi_wp2
    exact HF.out
   ·have HONE := Hd (show oneF v r g (atF v r y) (atF v r (y + 1)) = if (cutF v r g ⟨cellF v r (atF v r y) (atF v r (y + 1)), atF v r y, atF v r (y + 1)⟩).lo < (cutF v r g ⟨cellF v r (atF v r y) (atF v r (y + 1)), atF v r y, atF v r (y + 1)⟩).hi then [cutF v r g ⟨cellF v r (atF v r y) (atF v r (y + 1)), atF v r y, atF v r (y + 1)⟩] else [] from by unfold oneF; rw [if_neg hneg])
    have HCUT := Hd (fun (W' : World) (hb : Below W.heap.size W W') => cut_any v r hv hr g gn gb qb ⟨cellF v r (atF v r y) (atF v r (y + 1)), atF v r y, atF v r (y + 1)⟩ (by dsimp only; omega) W' (HQB.out.step hb) (HG.out.step hb))
    unfold PT.val at HCUT
    dsimp only at HCUT
    generalize hcut : cutF v r g ⟨cellF v r (atF v r y) (atF v r (y + 1)), atF v r y, atF v r (y + 1)⟩ = P at *
    generalize cellF v r (atF v r y) (atF v r (y + 1)) = c at *
    obtain ⟨pc, pl, ph⟩ := P
    dsimp only at HONE HCUT
    clear HCE HCB l1
    have kx1 := cell_of_row _ _ 0 _ _ _ ((hb1.block _ (HM.out.lt HT.out.xk)).trans HT.out.kx)
    gi_upto_region 9 with (fail)
    have hbp := rk_below W1 (.cells #[.int .i64 c, .int .i64 (atF v r y), .int .i64 (atF v r (y + 1))] 209)
    have HP := Hd (show PtAt W1.heap.size ⟨c, atF v r y, atF v r (y + 1)⟩ (W1.alloc (.cells #[.int .i64 c, .int .i64 (atF v r y), .int .i64 (atF v r (y + 1))] 209)) from heap_alloc_new _ _)
    have HB2 := Hd (hb1.trans (hbp.mono hb1.size))
    have hW1 := hb1.size
    have kx2 := ((bcell hbp).1 _ 0 (Nat.lt_of_lt_of_le (HM.out.lt HT.out.xk) hb1.size)).trans kx1
    clear kx1 hbp
    generalize World.alloc W1 _ = W2 at *
    generalize W1.heap.size = pb at *
    gi_wp2
    clear kx2 l2
    gi_loopw [29] (fun s29 wr => ∃ i : Nat, i ≤ 1 ∧ s29 = .int .i64 (i : Int) ∧ Hid (PtAt pb (if i = 0 then ⟨c, atF v r y, atF v r (y + 1)⟩ else ⟨pc, pl, ph⟩) wr ∧ Below W.heap.size W wr)) (fun s29 _ => 1 - (intOf s29).toNat)
    case atStart => exact ⟨0, by omega, rfl, Lib.hid ⟨HP.out, HB2.out⟩⟩
    case round =>
     obtain ⟨i, hi, rfl, HZ⟩ := hrel
     have HB3 := Lib.hid HZ.out.2
     by_cases hi0 : i = 0
     ·subst hi0
      have HP3 := Hd (show PtAt pb ⟨c, atF v r y, atF v r (y + 1)⟩ wr from HZ.out.1)
      have d0 := ((bcell HB3.out).1 cb 0 hcl).trans hcW
      obtain ⟨p0, p1, p2⟩ := cr3 HP3.out
      have HCC := Hd (HCUT.out wr HB3.out)
      clear HZ HP HB2
      gi_wp2_with (fail)
      refine ⟨trivial, CallsIn.inRound l ((callsIn_wide.2 HCC.out).mono ?_)⟩
      rintro e W4 ⟨rfl, hb4⟩
      dsimp only
      have HP4 := Hd (HP3.out.step hb4)
      have HB4 := Hd (HB3.out.trans (hb4.mono HB3.out.size))
      have q0' := cell_of_row _ _ 0 _ _ _ HP4.out
      have q1' := cell_of_row _ _ 1 _ _ _ HP4.out
      have q2' := cell_of_row _ _ 2 _ _ _ HP4.out
      obtain ⟨f0, f1, f2⟩ := fr3 HP4.out
      clear d0 p0 p1 p2 HCC hb4 HP3 HB3 HCUT
      gi_wp2
      obtain ⟨s1, _, _⟩ := rk_set3 (x := .int .i64 pc) (y := .int .i64 pl) (z := .int .i64 ph) HP4.out
      have HP5 := Lib.hid s1
      have HB5 := Hd (((HB4.out.setCell (p := ⟨pb, 0, none⟩) (show W.heap.size ≤ pb by omega) (.int .i64 pc)).setCell (p := ⟨pb, 1, none⟩) (show W.heap.size ≤ pb by omega) (.int .i64 pl)).setCell (p := ⟨pb, 2, none⟩) (show W.heap.size ≤ pb by omega) (.int .i64 ph))
      clear s1 q0' q1' q2' f0 f1 f2
      generalize World.setCell (World.setCell (World.setCell W4 _ _) _ _) _ _ = W6 at *
      go_roundw
      case rel => first | exact ⟨1, by omega, rfl, Lib.hid ⟨HP5.out, HB5.out⟩⟩ | ((repeat apply Exists.intro); exact ⟨⟨1, by omega, rfl, Lib.hid ⟨HP5.out, HB5.out⟩⟩, rfl⟩)
      case measure => simp [intOf]
     ·obtain rfl : i = 1 := by omega
      have HP3 := Hd (show PtAt pb ⟨pc, pl, ph⟩ wr from HZ.out.1)
      obtain ⟨p0, p1, p2⟩ := cr3 HP3.out
      have l3 := ((bcell HB3.out).1 _ 0 lz).trans (cell_of_row _ _ 0 _ _ _ HT.out.last)
      have lf3 : wr.frozen? ⟨w.heap.size + 1 + 1 + 1, 0, none⟩ = false := frozen_of_row _ _ 0 _ _ ((HB3.out.block _ lz).trans HT.out.last)
      clear HZ HP HB2 HCUT
      by_cases hlh : pl < ph
      ·rw [if_pos hlh] at HONE
       have HON2 := Hd (show prN v r g (y + 2) = prN v r g (y + 1) ++ [⟨pc, pl, ph⟩] from by rw [prN, HONE.out])
       obtain ⟨vv, r1, r2, r3⟩ := HT.out.row
       rw [HPL.out] at r2
       have o3 := ((bcell HB3.out).1 _ 0 oz).trans (cell_of_row _ _ 0 _ _ _ r1)
       have HR1 := Lib.hid r1
       have HR2 := Lib.hid r2
       have HR3 := Lib.hid r3
       have HPN := Hd (prN_len v r g (y + 1))
       generalize hln : prN v r g (y + 1) = L at *
       have HOW := Hd (own_below (own_below r2 HB3.out) (rk_below wr (.cells #[.int .i64 pc, .int .i64 pl, .int .i64 ph] 209)))
       have HNW := Hd (World.news_of_block (heap_alloc_new wr (.cells #[.int .i64 pc, .int .i64 pl, .int .i64 ph] 209)))
       have hlen : L.length + 1 ≤ 43200000002 := by have := HPN.out; have := HUP.out; omega
       have hb64 : L.length + 1 ≤ maxLen := by unfold maxLen; omega
       have hb48 : (L.length + 1) * 24 ≤ 140737488355328 := by omega
       obtain ⟨j0, hj0, hz0, hz1, hz2⟩ := info_parts info_part
       have hzA : (wr.alloc (.cells #[.int .i64 pc, .int .i64 pl, .int .i64 ph] 209)).heap.size = wr.heap.size + 1 := by simp
       have hWw := HB3.out.size
       clear r1 r2 r3 HONE
       gi_upto_region 16 with (gi_at_builtin; refine rk_append_lies _ rfl _ _ 183 rfl (w.heap.size + 1 + 1 + 1 + 1) 209 j0 _ 3 24 Tryz.underlying183 hj0 hz0 hz1 hz2 rfl (by decide) vv L.length (ptC L) rfl HOW.out ⟨wr.heap.size, 0, none⟩ 1 1 [.int .i64 pc, .int .i64 pl, .int .i64 ph] rfl rfl HNW.out pt_one (by decide) hb64 hb48 (by rw [hzA]; omega) _ rfl ?_; intro g1 cp V9 hown9 hgrow9 hat9 hlt9; have hne9 : ∀ b, b ≤ w.heap.size + 1 + 1 + 1 → (b : Nat) < W.heap.size → V9.heap[b]? = W.heap[b]? := (fun b h1 h2 => (hgrow9.block b (by rw [hzA]; omega) (fun e => by have := own_block_le HR2.out e.symm; omega)).trans ((Below.heap_alloc wr _ b (by omega)).trans (HB3.out.block b h2))); have ob9 := (hne9 _ (by omega) oz).trans HR1.out; have o9 := cell_of_row _ _ 0 _ _ _ ob9; have of9 := frozen_of_row _ _ 0 _ _ ob9; have lb9 := (hne9 _ (by omega) lz).trans HT.out.last; have l9 := cell_of_row _ _ 0 _ _ _ lb9; have lf9 := frozen_of_row _ _ 0 _ _ lb9)
       have HF := Hd (pa_add (p := ⟨pc, pl, ph⟩) HT.out HM.out HPL.out (by rw [HON2.out, hln]) HB3.out HR1.out (by rw [hln]; exact HR2.out) HR3.out (by rw [hln]; exact hown9) hgrow9 hat9 hlt9)
       rw [hln] at HF
       have l10 := (World.cell?_of_block (heap_setCell_other V9 ⟨w.heap.size + 1 + 1, 0, none⟩ (w.heap.size + 1 + 1 + 1) (.slice (some ⟨g1, 0, none⟩) (L.length + 1) cp) (by show w.heap.size + 1 + 1 + 1 ≠ w.heap.size + 1 + 1; omega))).trans l9
       have lf10 : (V9.setCell ⟨w.heap.size + 1 + 1, 0, none⟩ (.slice (some ⟨g1, 0, none⟩) (L.length + 1) cp)).frozen? ⟨w.heap.size + 1 + 1 + 1, 0, none⟩ = false := by rw [World.frozen?_setCell]; exact lf9
       clear hown9 hgrow9 hat9 hlt9 hne9 ob9 o9 of9 lb9 l9 lf9 HUP HSK
       gi_wp2
       exact HF.out
      ·rw [if_neg hlh] at HONE
       have HF := Hd (HSK.out HONE.out wr HB3.out)
       clear HUP HSK HONE
       gi_wp2
       exact HF.out
 case hdone =>
  rintro D m X W hD hDl hDX hM ht hbel hwk hDD
  obtain ⟨vv, h1, h2, h3⟩ := ht.row
  rw [List.length_range] at h2
  have c1 := cell_of_row _ _ 0 _ _ _ h1
  obtain ⟨pa, pc, rfl⟩ := own_len h2
  have HDD := Lib.hid hDD
  have hDo : ∀ b, (Value.slice pa (prN v r g (m + 1)).length pc).ownBlock = some b → b ≠ D := fun b hb e => hDX (by rw [← e]; exact h3 b hb)
  have HRR := Hd (fun (o' : Obj) => show (W.putObj D o').ownsRow w.heap.size 209 3 (.slice pa (prN v r g (m + 1)).length pc) (prN v r g (m + 1)).length (ptC (prN v r g (m + 1))) ∧ Below w.heap.size w (W.putObj D o') from ⟨own_base (own_keep h2 (fun b hb => World.putObj_heap_other (hDo b hb))) (by omega), below_put hbel (by have := hb3.size; omega) o'⟩)
  have HM := Lib.hid hM
  clear h1 h2 h3 ht hbel hwk hDD hDo hM
  go_wp2
  exact leave_marked (v := .slice pa (prN v r g (m + 1)).length pc) HDD.out (fun o' => ⟨by simp [results, Tryz.results91, go_sem], m, pa, pc, HM.out, rfl, (HRR.out o').1, (HRR.out o').2⟩)
end Go.Proofs.YtgmpelhphnmknaaGreat
namespace Go.Proofs.YtgmpelhphnmknaaGreat
open Go.RowKit
def pt0 : PT := ⟨0, 0, 0⟩
def PRow (W : World) (a : Option Addr) (L : List PT) : Prop := L.length = 0 ∨ ∃ b, a = some ⟨b, 0, none⟩ ∧ b < W.heap.size ∧ ∀ i, i < L.length → W.cell? ⟨b, i * 3, none⟩ = some (.int .i64 (L.getD i pt0).cell) ∧ W.cell? ⟨b, i * 3 + 1, none⟩ = some (.int .i64 (L.getD i pt0).lo) ∧ W.cell? ⟨b, i * 3 + 2, none⟩ = some (.int .i64 (L.getD i pt0).hi)
theorem prow_of {W : World} {base : Nat} {a : Option Addr} {c : Nat} {L : List PT} (h : W.ownsRow base 209 3 (.slice a L.length c) L.length (ptC L)) : PRow W a L := by
 by_cases hl : L.length = 0
 ·exact .inl hl
 ·obtain ⟨b, rfl, h1, h2⟩ := own_at h (by omega)
  refine .inr ⟨b, rfl, h2, fun i hi => ?_⟩
  have hc : ∀ s, s < 3 → W.cell? ⟨b, i * 3 + s, none⟩ = (L.getD i pt0).cells[s]? := fun s hs => by
   rw [h.cellAt (i * 3 + s) (by omega)]
   exact ptC_get L i s pt0 hi hs
  exact ⟨hc 0 (by omega), hc 1 (by omega), hc 2 (by omega)⟩
theorem PRow.step {W W' : World} {a : Option Addr} {L : List PT} (h : PRow W a L) (hb : Below W.heap.size W W') : PRow W' a L := by
 rcases h with h | ⟨b, h1, h2, h3⟩
 ·exact .inl h
 ·exact .inr ⟨b, h1, Nat.lt_of_lt_of_le h2 hb.size, fun i hi => ⟨((bcell hb).1 _ _ h2).trans (h3 i hi).1, ((bcell hb).1 _ _ h2).trans (h3 i hi).2.1, ((bcell hb).1 _ _ h2).trans (h3 i hi).2.2⟩⟩
def PtOk (N : Int) (p : PT) : Prop := (0 ≤ p.cell ∧ p.cell < N) ∧ p.lo < p.hi ∧ (-43200000000 ≤ p.lo ∧ p.hi ≤ 43200000000)
theorem cut_cell (v : VO) (r : RY) (g : Nat → Int) (p : PT) : (cutF v r g p).cell = p.cell := by
 unfold cutF
 split
 ·rfl
 ·split
  ·rfl
  ·split <;> rfl
theorem one_ok {v : VO} {r : RY} (hv : v.Ok) (hr : r.Ok) {g : Nat → Int} (hg : ∀ p : PT, 0 ≤ p.cell → 0 ≤ g (p.cell.tmod (v.nx * v.ny)).toNat ∧ g (p.cell.tmod (v.nx * v.ny)).toNat ≤ 12000) {i j : Nat} : ∀ p ∈ oneF v r g (atF v r i) (atF v r j), PtOk (v.nx * v.ny * v.nz) p := fun p hp => by
 have hc := cell_bound hv hr (atF v r i) (atF v r j)
 have h1 := atF_low hv hr i
 have h2 := atF_low hv hr j
 have hT := tkF_bound hr
 unfold oneF at hp
 split at hp
 ·cases hp
 ·rename_i hn
  split at hp
  ·rename_i hlt
   rw [List.mem_singleton] at hp
   subst hp
   have hgg := hg ⟨cellF v r (atF v r i) (atF v r j), atF v r i, atF v r j⟩ (by dsimp only; omega)
   have hw := (wh_bound (T := (tkF r : Int)) (a := axF v r 2) (p := g ((cellF v r (atF v r i) (atF v r j)).tmod (v.nx * v.ny)).toNat) (by omega) (ax_bound hv hr 2).1 (by dsimp only at hgg; omega)).2
   refine ⟨by rw [cut_cell]; dsimp only; omega, hlt, ?_⟩
   unfold cutF at hlt ⊢
   dsimp only at hlt hgg ⊢
   split
   ·rename_i h3; rw [if_pos h3] at hlt; dsimp only at hlt ⊢; omega
   ·rename_i h3
    rw [if_neg h3] at hlt
    split
    ·rename_i h4; rw [if_pos h4] at hlt; dsimp only at hlt ⊢; omega
    ·rename_i h4
     rw [if_neg h4] at hlt
     split
     ·rename_i h5; rw [if_pos h5] at hlt; dsimp only at hlt; omega
     ·dsimp only; omega
  ·cases hp
theorem prN_ok {v : VO} {r : RY} (hv : v.Ok) (hr : r.Ok) {g : Nat → Int} (hg : ∀ p : PT, 0 ≤ p.cell → 0 ≤ g (p.cell.tmod (v.nx * v.ny)).toNat ∧ g (p.cell.tmod (v.nx * v.ny)).toNat ≤ 12000) : ∀ k, ∀ p ∈ prN v r g k, PtOk (v.nx * v.ny * v.nz) p
 | 0, p, hp => by cases hp
 | 1, p, hp => by cases hp
 | k + 2, p, hp => by
  rw [prN, List.mem_append] at hp
  rcases hp with hp | hp
  ·exact prN_ok hv hr hg (k + 1) p hp
  ·exact one_ok hv hr hg p hp
def chC : List PT → List Value
 | [] => []
 | x :: t => [.int .i64 x.cell, .int .i64 (x.hi - x.lo)] ++ chC t
theorem chC_append : ∀ (a b : List PT), chC (a ++ b) = chC a ++ chC b
 | [], b => rfl
 | h :: t, b => by rw [List.cons_append, chC, chC, chC_append t b, List.append_assoc]
theorem info_chord : (Tryz.prog.info? 122).map (fun i => (i.zero, i.size, i.bytes)) = some (some (.agg #[.int .i64 0, .int .i64 0]), 2, 16) := by kernel_rfl
theorem ch_one {a b : Int} : ∀ u ∈ [Value.int .i64 a, .int .i64 b], u.oneCell' = true := by
 intro u hu
 simp at hu
 rcases hu with rfl | rfl <;> rfl
theorem take_succ_getD (L : List PT) {i : Nat} (h : i < L.length) : L.take (i + 1) = L.take i ++ [L.getD i pt0] := by
 rw [List.take_add_one, List.getElem?_eq_getElem h, List.getD_eq_getElem?_getD, List.getElem?_eq_getElem h]
 rfl
theorem chords_any (L : List PT) (pa : Option Addr) (pc : Nat) (N : Int) (w : World) (hP : PRow w pa L) (hN : ∀ p ∈ L, PtOk N p) (hl : L.length ≤ 43200000002) :
  Calls Tryz.prog 90 #[.slice pa L.length pc] w fun e w' => ∃ ca cc, e = .returned (.slice ca L.length cc) ∧ w'.ownsRow w.heap.size 122 2 (.slice ca L.length cc) L.length (chC L) ∧ Below w.heap.size w w' := by
 have HP := Lib.hid hP
 have HN := Lib.hid hN
 obtain ⟨n, hn⟩ : ∃ n, L.length = n := ⟨_, rfl⟩
 have HL := Lib.hid hn
 rw [hn] at hl ⊢
 clear hP hN hn
 go_enter Tryz.func90, Tryz.ntmps90
 go_wp2
 go_loopw [3, 8] (fun s3 s8 wr => ∃ i : Nat, i ≤ n ∧ s8 = .int .i64 (i : Int) ∧ Hid (∃ ca cc, s3 = .slice ca i cc ∧ wr.ownsRow w.heap.size 122 2 (.slice ca i cc) i (chC (L.take i)) ∧ Below w.heap.size w wr)) (fun _ s8 _ => n - (intOf s8).toNat)
 case atStart => exact ⟨0, Nat.zero_le _, rfl, Lib.hid ⟨none, 0, rfl, World.ownsRow_nil _ _ _ _, Below.refl _ _⟩⟩
 case round =>
  obtain ⟨i, hi, rfl, HX⟩ := hrel
  obtain ⟨ca, cc, rfl, how, hbw⟩ := HX.out
  have HOW := Lib.hid how
  have HBW := Lib.hid hbw
  clear HX how hbw
  by_cases hlt : i < n
  ·have hlt' : (i : Int) < (n : Int) := by omega
   rcases HP.out with h | ⟨b, rfl, hbz, hcs⟩
   ·have := HL.out; omega
   obtain ⟨c0, c1, c2⟩ := hcs i (by have := HL.out; omega)
   have hb' : b < wr.heap.size := by have := HBW.out.size; omega
   have d0 := ((bcell HBW.out).1 b (i * 3) hbz).trans c0
   have d1 := ((bcell HBW.out).1 b (i * 3 + 1) hbz).trans c1
   have d2 := ((bcell HBW.out).1 b (i * 3 + 2) hbz).trans c2
   have HTK := Hd (take_succ_getD L (i := i) (by have := HL.out; omega))
   obtain ⟨⟨hk1, hk2⟩, hk3, hk4, hk5⟩ := HN.out (L.getD i pt0) (by
    rw [List.getD_eq_getElem?_getD, List.getElem?_eq_getElem (by have := HL.out; omega)]
    exact List.getElem_mem _)
   generalize L.getD i pt0 = p at *
   obtain ⟨pcell, plo, phi⟩ := p
   dsimp only at d0 d1 d2 hk1 hk2 hk3 hk4 hk5
   clear hcs c0 c1 c2
   go_upto_region 5 with (fail)
   have hb1 := rk_below wr (.cells #[.int .i64 pcell, .int .i64 plo, .int .i64 phi] 209)
   have hn1 := heap_alloc_new wr (.cells #[.int .i64 pcell, .int .i64 plo, .int .i64 phi] 209)
   have HO1 := Hd (own_below HOW.out hb1)
   have HB1 := Hd (HBW.out.trans (hb1.mono HBW.out.size))
   obtain ⟨p0, p1, p2⟩ := cr3 hn1
   have hw1 := HB1.out.size
   clear hb1 hn1 HOW HBW d0 d1 d2
   generalize World.alloc wr _ = W2 at *
   have HOW := Hd (own_below HO1.out (rk_below W2 (.cells #[.int .i64 pcell, .int .i64 (phi - plo)] 122)))
   have HNW := Hd (World.news_of_block (heap_alloc_new W2 (.cells #[.int .i64 pcell, .int .i64 (phi - plo)] 122)))
   have HB2 := Hd (HB1.out.trans ((rk_below W2 (.cells #[.int .i64 pcell, .int .i64 (phi - plo)] 122)).mono hw1))
   have hb64 : i + 1 ≤ maxLen := by unfold maxLen; omega
   have hb48 : (i + 1) * 16 ≤ 140737488355328 := by omega
   obtain ⟨j0, hj0, hz0, hz1, hz2⟩ := info_parts info_chord
   have hzA : (W2.alloc (.cells #[.int .i64 pcell, .int .i64 (phi - plo)] 122)).heap.size = W2.heap.size + 1 := by simp
   go_upto_region 6 with (at_builtin; refine wpList_append_lies _ rfl _ _ 116 rfl w.heap.size 122 j0 _ 2 16 Tryz.underlying116 hj0 hz0 hz1 hz2 rfl (by decide) (.slice ca i cc) i (chC (L.take i)) rfl HOW.out ⟨W2.heap.size, 0, none⟩ 1 1 [.int .i64 pcell, .int .i64 (phi - plo)] rfl rfl HNW.out ch_one (by decide) hb64 hb48 (by rw [hzA]; omega) _ rfl ?_; intro g1 cp V9 hown9 hgrow9 hat9 hlt9)
   have HB9 := Hd (HB2.out.grown hgrow9 (by rw [hzA]; omega) (fun b hb => own_block_le HOW.out hb))
   have HO9 := Hd (show V9.ownsRow w.heap.size 122 2 (.slice (some ⟨g1, 0, none⟩) (i + 1) cp) (i + 1) (chC (L.take (i + 1))) from by
    rw [HTK.out, chC_append]
    exact hown9)
   clear hown9 hgrow9 hat9 hlt9 p0 p1 p2 HO1 HB1 HOW HNW HB2
   go_wp2
   go_roundw
   case rel => first | exact ⟨i + 1, by omega, by go_num, Lib.hid ⟨_, _, rfl, HO9.out, HB9.out⟩⟩ | ((repeat apply Exists.intro); exact ⟨⟨i + 1, by omega, by go_num, Lib.hid ⟨_, _, rfl, HO9.out, HB9.out⟩⟩, rfl⟩)
   case measure => simp [intOf]; omega
  ·obtain rfl : i = n := by omega
   have hlt' : ¬ (i : Int) < (i : Int) := by omega
   have HFI := Hd (show wr.ownsRow w.heap.size 122 2 (.slice ca i cc) i (chC L) from by
    have := HOW.out
    rwa [List.take_of_length_le (by have := HL.out; omega)] at this)
   go_wp2
   go_ret
   exact ⟨ca, cc, rfl, HFI.out, HBW.out⟩
def grB (v : VO) (n : Nat) (g : Nat → Int) : Bool := allUpto n (fun i => inB (g i) 0 (v.nz * v.size)) && ((n : Int) == v.nx * v.ny)
theorem grounded_any (v : VO) (hv : v.Ok) (ga : Option Addr) (n gc : Nat) (g : Nat → Int) (w : World) (hn : n ≤ maxLen) (hG : Ints w.heap.size w ga n g) :
  Calls Tryz.prog 66 #[v.val, .slice ga n gc] w fun e w' => e = .returned (.bool (grB v n g)) ∧ Below w.heap.size w w' := by
 have HG := Lib.hid hG
 have HNO := Hd (fun (i : Nat) (hi : i < n) (h : inB (g i) 0 (v.nz * v.size) = false) => show grB v n g = false from by unfold grB; rw [allUpto_false hi h, Bool.false_and])
 have HYES := Hd (fun (h : ∀ i, i < n → inB (g i) 0 (v.nz * v.size) = true) => show grB v n g = ((n : Int) == v.nx * v.ny) from by unfold grB; rw [allUpto_true h, Bool.true_and])
 have hm1 := rk_mul_abs (x := v.nz) (y := v.size) (K := 12) (M := 1000) (by decide) (by decide) (by have := hv.z; omega) (by have := hv.size; omega)
 have hm2 := rk_mul_abs (x := v.nx) (y := v.ny) (K := 12) (M := 12) (by decide) (by decide) (by have := hv.x; omega) (by have := hv.y; omega)
 unfold maxLen at hn
 generalize grB v n g = RES at *
 unfold VO.val
 generalize hzs : v.nz * v.size = zs at *
 generalize hxy : v.nx * v.ny = xy at *
 clear hG
 go_enter Tryz.func66, Tryz.ntmps66
 go_upto_region 1 with (fail)
 have HB := Hd (rk_below w (.cells #[.int .i64 v.nx, .int .i64 v.ny, .int .i64 v.nz, .int .i64 v.size] 23))
 have hnn := heap_alloc_new w (.cells #[.int .i64 v.nx, .int .i64 v.ny, .int .i64 v.nz, .int .i64 v.size] 23)
 generalize World.alloc w _ = V at *
 obtain ⟨k0, k1, k2, k3⟩ := cr4 hnn
 clear hnn
 go_wp2
 go_loopw [9] (fun s wr => ∃ i : Nat, i ≤ n ∧ s = .int .i64 (i : Int) ∧ wr = V ∧ Hid (∀ j, j < i → inB (g j) 0 zs = true)) (fun s _ => n - (intOf s).toNat)
 case atStart => exact ⟨0, Nat.zero_le _, rfl, rfl, Hd (fun j hj => by omega)⟩
 case round =>
  obtain ⟨i, hi, rfl, rfl, HA⟩ := hrel
  by_cases hlt : i < n
  ·have hlt' : (i : Int) < (n : Int) := by omega
   obtain ⟨gb, go, rfl, hgl, hgc⟩ := HG.out.get hlt
   have hg1 := ((bcell HB.out).1 gb (go + i) hgl).trans hgc
   clear hgc
   cases hb : inB (g i) 0 zs
   ·have HE := Hd (HNO.out i hlt hb)
    go_wp2_with (go_at_call 67; refine (rkin_any _ _ _ _).mono ?_; rintro e w' ⟨rfl, rfl⟩; rw [hb])
    go_ret
    exact ⟨ret_bool HE.out.symm, HB.out⟩
   ·have HA2 := Hd (fun j (hj : j < i + 1) => show inB (g j) 0 zs = true from (by by_cases e : j = i; (subst e; exact hb); exact HA.out j (by omega)))
    go_wp2_with (go_at_call 67; refine (rkin_any _ _ _ _).mono ?_; rintro e w' ⟨rfl, rfl⟩; rw [hb])
    go_roundw
    case rel => first | exact ⟨i + 1, by omega, by go_num, trivial, HA2⟩ | ((repeat apply Exists.intro); exact ⟨⟨i + 1, by omega, by go_num, trivial, HA2⟩, rfl⟩)
    case measure => simp [intOf]; omega
  ·obtain rfl : i = n := by omega
   have hlt' : ¬ (i : Int) < (i : Int) := by omega
   have HE := Hd (HYES.out HA.out)
   go_wp2
   go_ret
   exact ⟨ret_bool HE.out.symm, HB.out⟩
end Go.Proofs.YtgmpelhphnmknaaGreat
