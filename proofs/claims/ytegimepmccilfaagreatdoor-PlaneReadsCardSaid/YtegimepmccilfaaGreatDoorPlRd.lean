/- The walk of plane.plane: a line is read. -/
import Derived.Test.YtegimepmccilfaaGreatDoorGpC
import Derived.Test.YtegimepmccilfaaGreatDoorPlaneT
import Derived.Test.YtegimepmccilfaaGreatDoorWide2
import Derived.Test.YtegimepmccilfaaGreatDoorRegHead
import Derived.Deep.CutBlock
import Derived.Deep.AppendLies
namespace Go.Proofs.YtegimepmccilfaaGreatDoor
open Go.RowKit
set_option linter.unusedVariables false
set_option linter.unusedSimpArgs false
theorem rd_below (W : World) (o : Obj) : Below W.heap.size W (W.alloc o) := (Below.refl _ _).alloc (Nat.le_refl _) _
theorem al_old {W : World} {o v : Obj} {j : Nat} (h : W.heap[j]? = some v) : (W.alloc o).heap[j]? = some v := ((rd_below W o).block j (Array.getElem?_eq_some_iff.1 h).1).trans h
theorem al_new (W : World) (o : Obj) (k : Nat) (hk : W.heap.size = k) : (W.alloc o).heap[k]? = some o := by
  subst hk
  exact heap_alloc_new W o
theorem al_size (W : World) (o : Obj) : (W.alloc o).heap.size = W.heap.size + 1 := by simp
theorem five_alloc (w : World) (o0 o1 o2 o3 o4 : Obj) (k1 k2 k3 k4 : Nat) (h1 : w.heap.size + 1 = k1) (h2 : k1 + 1 = k2) (h3 : k2 + 1 = k3) (h4 : k3 + 1 = k4) : (((((w.alloc o0).alloc o1).alloc o2).alloc o3).alloc o4).heap[w.heap.size]? = some o0 ∧ (((((w.alloc o0).alloc o1).alloc o2).alloc o3).alloc o4).heap[k1]? = some o1 ∧ (((((w.alloc o0).alloc o1).alloc o2).alloc o3).alloc o4).heap[k2]? = some o2 ∧ (((((w.alloc o0).alloc o1).alloc o2).alloc o3).alloc o4).heap[k3]? = some o3 ∧ (((((w.alloc o0).alloc o1).alloc o2).alloc o3).alloc o4).heap[k4]? = some o4 ∧ Below w.heap.size w (((((w.alloc o0).alloc o1).alloc o2).alloc o3).alloc o4) := by
  refine ⟨al_old (al_old (al_old (al_old (al_new _ _ _ rfl)))), al_old (al_old (al_old (al_new _ _ _ ?_))), al_old (al_old (al_new _ _ _ ?_)), al_old (al_new _ _ _ ?_), al_new _ _ _ ?_, ?_⟩
  · rw [al_size]; omega
  · rw [al_size, al_size]; omega
  · rw [al_size, al_size, al_size]; omega
  · rw [al_size, al_size, al_size, al_size]; omega
  · exact (((((Below.refl _ _).alloc (by simp) _).alloc (by simp) _).alloc (by simp; omega) _).alloc (by simp; omega) _).alloc (by simp; omega) _
theorem ns_list {l : List Int} (h : l.length = 11) : [deF l 0, deF l 1, deF l 2, deF l 3, deF l 4, deF l 5, deF l 6, deF l 7, deF l 8, deF l 9, deF l 10] = l := by
  match l, h with
  | [_, _, _, _, _, _, _, _, _, _, _], _ => rfl
theorem range_map {α : Type} (l : List α) (d : α) : (List.range l.length).map (fun i => l.getD i d) = l := by
  apply List.ext_getElem
  · simp
  · intro i h1 h2
    simp
    rw [List.getElem?_eq_getElem h2]
    rfl
theorem toPP_prOf {kd vw : Int} {l : List Int} {a : Option Addr} {c : Nat} {D : List DR} {a' : Option Addr} {c' : Nat} {E : List Int} (h : l.length = 11) : toPP (prOf kd vw l a c D a' c' E) = ⟨kd, vw, l, D, E⟩ := by
  have e1 : nsOf (prOf kd vw l a c D a' c' E) = l := ns_list h
  have e2 : drOf (prOf kd vw l a c D a' c' E) = D := range_map D (0, 0, 0)
  have e3 : deOf (prOf kd vw l a c D a' c' E) = E := range_map E 0
  unfold toPP
  rw [e1, e2, e3]
  rfl
theorem deF_snoc (l : List Int) (n : Int) (j : Nat) : deF (l ++ [n]) j = if j = l.length then n else deF l j := by
  unfold deF
  by_cases h : j = l.length
  · rw [if_pos h, h, getD_snoc]
  · rw [if_neg h]
    by_cases h2 : j < l.length
    · exact getD_front l n 0 h2
    · rw [List.getD_eq_getElem?_getD, List.getElem?_eq_none (by simp; omega), List.getD_eq_getElem?_getD, List.getElem?_eq_none (by omega)]
theorem pcs_at {kd vw : Int} {f : Nat → Int} {dv ev : Value} {i : Nat} (hi : i < 11) : (pcs kd vw f dv ev)[2 + i]? = some (.int .i64 (f i)) := by
  match i, hi with
  | 0, _ | 1, _ | 2, _ | 3, _ | 4, _ | 5, _ | 6, _ | 7, _ | 8, _ | 9, _ | 10, _ => rfl
abbrev ptObj (pb : Nat) : Obj := .cells #[.pointer (some ⟨pb, 2, none⟩), .pointer (some ⟨pb, 3, none⟩), .pointer (some ⟨pb, 4, none⟩), .pointer (some ⟨pb, 5, none⟩), .pointer (some ⟨pb, 6, none⟩), .pointer (some ⟨pb, 7, none⟩), .pointer (some ⟨pb, 8, none⟩), .pointer (some ⟨pb, 9, none⟩), .pointer (some ⟨pb, 10, none⟩), .pointer (some ⟨pb, 11, none⟩), .pointer (some ⟨pb, 12, none⟩)] 123
theorem pt_at {W : World} {fb pb i : Nat} (h : W.heap[fb]? = some (ptObj pb)) (hi : i < 11) : W.cell? ⟨fb, i, none⟩ = some (.pointer (some ⟨pb, 2 + i, none⟩)) := by
  rw [cell_of_row _ _ i _ _ _ h]
  match i, hi with
  | 0, _ | 1, _ | 2, _ | 3, _ | 4, _ | 5, _ | 6, _ | 7, _ | 8, _ | 9, _ | 10, _ => rfl
theorem next_yes {xb sb : Nat} {ws : List Tx} {k : Nat} {w : World} (h : WordsAt xb sb ws k w) (hl : ws.length ≤ 100000) (hk : k < ws.length) : Calls Tryz.prog 74 #[.pointer (some ⟨xb, 0, none⟩)] w fun e w' => e = .returned (.string ⟨(ws.getD k []).toArray⟩) ∧ Pop xb w w' ∧ WordsAt xb sb ws (k + 1) w' :=
  (next_any h hl).mono fun e w' hr => by
    obtain ⟨hp, hr2⟩ := hr
    rw [if_pos hk] at hr2
    exact ⟨hr2.1, hp, hr2.2⟩
theorem next_no {xb sb : Nat} {ws : List Tx} {k : Nat} {w : World} (h : WordsAt xb sb ws k w) (hl : ws.length ≤ 100000) (hk : ¬ k < ws.length) : Calls Tryz.prog 74 #[.pointer (some ⟨xb, 0, none⟩)] w fun e w' => e = .panicked wrP ∧ Pop xb w w' :=
  (next_any h hl).mono fun e w' hr => by
    obtain ⟨hp, hr2⟩ := hr
    rw [if_neg hk] at hr2
    exact ⟨hr2, hp⟩
theorem number_yes {x : Tx} (hx : x.length ≤ 60000) {n : Int} (h : nmR x = some n) (w : World) : Calls Tryz.prog 52 #[.string ⟨x.toArray⟩] w fun e w' => e = .returned (.int .i64 n) ∧ Below w.heap.size w w' :=
  (number_any x hx w).mono fun e w' hr => by
    obtain ⟨hb, hr2⟩ := hr
    rw [h] at hr2
    exact ⟨hr2, hb⟩
theorem number_no {x : Tx} (hx : x.length ≤ 60000) (h : nmR x = none) (w : World) : Calls Tryz.prog 52 #[.string ⟨x.toArray⟩] w fun e w' => e = .panicked wrP ∧ Below w.heap.size w w' :=
  (number_any x hx w).mono fun e w' hr => by
    obtain ⟨hb, hr2⟩ := hr
    rw [h] at hr2
    exact ⟨hr2, hb⟩
theorem row_off {W : World} {base : Nat} {e t : TypeId} {s : Nat} {v : Value} {n : Nat} {xs : List Value} {g : Nat} {cur : Array Value} {f : Nat × Nat} (h : W.ownsRow base e s v n xs) (hg : W.heap[g]? = some (.cells cur t f)) (ht : e ≠ t) : v.ownBlock ≠ some g := by
  rcases h.2 with ⟨rfl, _⟩ | ⟨g', cap', cur', rfl, _, hg', _⟩
  · simp [Value.ownBlock]
  · simp only [Value.ownBlock, ne_eq, Option.some.injEq]
    intro e'
    subst e'
    rw [hg] at hg'
    injection hg' with hg'
    injection hg' with _ h _
    exact ht h.symm
theorem below_fill {B : Nat} {a : World} {b : Nat} (hB : B ≤ b) : ∀ (vs : List Value) (o : Nat) (w : World), Below B a w → Below B a (w.setCells b o vs)
  | [], _, _, h => h
  | v :: r, o, w, h => below_fill hB r (o + 1) _ (h.setCell (p := ⟨b, o, none⟩) hB v)
theorem row_fill {base : Nat} {e t : TypeId} {s : Nat} {v : Value} {n b : Nat} {xs : List Value} {cs : Array Value} {fz : Nat × Nat} : ∀ (vs : List Value) (o : Nat) (W : World), W.ownsRow base e s v n xs → W.heap[b]? = some (.cells cs t fz) → e ≠ t → (W.setCells b o vs).ownsRow base e s v n xs
  | [], _, _, h, _, _ => h
  | u :: r, o, W, h, hb, ht => row_fill (cs := cs.setIfInBounds o u) r (o + 1) _ (row_pop h hb ht o u) (set_same _ _ _ _ _ _ _ hb) ht
/-- how many words are left -/
def wLen (xb : Nat) (W : World) : Nat := match W.cell? ⟨xb, 0, none⟩ with
  | some (.slice _ n _) => n
  | _ => 0
theorem wLen_is {xb sb : Nat} {ws : List Tx} {k : Nat} {W : World} (h : WordsAt xb sb ws k W) : wLen xb W = ws.length - k := by
  obtain ⟨a, ha, _⟩ := h.box
  unfold wLen
  rw [cell_of_row _ _ 0 _ _ _ ha]
  rfl
theorem info_drift : (Tryz.prog.info? 71).map (fun i => (i.zero, i.size, i.bytes)) = some (some (.agg #[.int .i64 0, .int .i64 0, .int .i64 0]), 3, 24) := by kernel_rfl
theorem info_int : (Tryz.prog.info? 3).map (fun i => (i.zero, i.size, i.bytes)) = some (some (.int .i64 0), 1, 8) := by kernel_rfl
theorem spl_wlen (c : UInt8) : ∀ (s : Tx) (y : Tx), y ∈ spl c s → y.length ≤ s.length
  | [], y, h => by
    simp [spl] at h
    subst h
    simp
  | b :: s, y, h => by
    have ih := spl_wlen c s
    unfold spl at h
    split at h
    · simp only [List.mem_cons] at h
      rcases h with rfl | h
      · simp
      · have := ih y h
        simp; omega
    · split at h
      · rename_i h0
        simp at h
        subst h
        simp
      · rename_i v vs h0
        simp only [List.mem_cons] at h
        rcases h with rfl | h
        · have := ih v (by rw [h0]; simp)
          simp; omega
        · have := ih y (by rw [h0]; simp [h])
          simp; omega
theorem spl_llen (c : UInt8) (s : Tx) : (spl c s).length ≤ s.length + 1 := by
  rw [spl_len]
  have := List.count_le_length (a := c) (l := s)
  omega
set_option maxRecDepth 100000 in
set_option maxHeartbeats 4000000 in
theorem plane_any (x : Tx) (hx : x.length ≤ 60000) (w : World) (hm : HasMax w) : Calls Tryz.prog 53 #[.string ⟨x.toArray⟩] w (LineRes x w) := by
  have HRN := Lib.hid (fun (W' : World) (hb : Below w.heap.size w W') (hn : lineR (spl 32 x) = none) => show LineRes x w (.panicked wrP) W' from ⟨hb, by rw [hn]⟩)
  have HRS := Lib.hid (fun (W' : World) (kd vw : Int) (l : List Int) (a : Option Addr) (c : Nat) (D : List DR) (a' : Option Addr) (c' : Nat) (E : List Int) (hb : Below w.heap.size w W') (hn : lineR (spl 32 x) = some ⟨kd, vw, l, D, E⟩) (hl : l.length = 11) (h1 : W'.ownsRow w.heap.size 71 3 (.slice a D.length c) D.length (drC D)) (h2 : W'.ownsRow w.heap.size 3 1 (.slice a' E.length c') E.length (deC E)) => show LineRes x w (.returned (prOf kd vw l a c D a' c' E).plane) W' from ⟨hb, by rw [hn]; exact ⟨_, rfl, toPP_prOf hl, h1, h2⟩⟩)
  have HSP := Lib.hid (fun (W : World) (h : HasMax W) => psplit_any 32 x (by omega) W h)
  have HWL := Lib.hid (fun (i : Nat) => show ((spl 32 x).getD i []).length ≤ 60000 from by
    by_cases hi : i < (spl 32 x).length
    · rw [List.getD_eq_getElem?_getD, List.getElem?_eq_getElem hi]
      exact Nat.le_trans (spl_wlen 32 x _ (List.getElem_mem _)) hx
    · rw [List.getD_eq_getElem?_getD, List.getElem?_eq_none (by omega)]
      simp)
  have hwl : (spl 32 x).length ≤ 60001 := Nat.le_trans (spl_llen 32 x) (by omega)
  have HMX := Lib.hid (fun (W : World) (hb : Below w.heap.size w W) => hm.below hm.pos hb)
  generalize LineRes x w = RES at *
  generalize spl 32 x = ws at *
  clear hm
  go_enter Tryz.func53, Tryz.ntmps53
  go_upto_region 6 with (go_at_call 50; refine (HSP.out _ (HMX.out _ (rd_below _ _))).mono ?_; rintro e w1 ⟨rfl, rfl⟩)
  obtain ⟨sb, hsb⟩ : ∃ k, w.heap.size + 1 = k := ⟨_, rfl⟩
  obtain ⟨xb, hxb⟩ : ∃ k, sb + 1 = k := ⟨_, rfl⟩
  obtain ⟨nb, hnb⟩ : ∃ k, xb + 1 = k := ⟨_, rfl⟩
  obtain ⟨pb, hpb⟩ : ∃ k, nb + 1 = k := ⟨_, rfl⟩
  rw [hsb, hxb, hnb, hpb]
  have CC := Lib.hid (show PC w w.heap.size xb nb pb from ⟨Nat.le_refl _, by omega, by omega, by omega, by omega⟩)
  have hA := five_alloc w (.cells #[.int .i64 0, .int .i64 0, .int .i64 0, .int .i64 0, .int .i64 0, .int .i64 0, .int .i64 0, .int .i64 0, .int .i64 0, .int .i64 0, .int .i64 0, .int .i64 0, .int .i64 0, .slice none 0 0, .slice none 0 0] 42) (wsObj ws) (.cells #[.slice (some ⟨sb, 0, none⟩) ws.length ws.length] 60) (nxObj xb) (.cells #[.int .i64 0, .int .i64 0, .int .i64 0, .int .i64 0, .int .i64 0, .int .i64 0, .int .i64 0, .int .i64 0, .int .i64 0, .int .i64 0, .int .i64 0, .int .i64 0, .int .i64 0, .slice none 0 0, .slice none 0 0] 42) sb xb nb pb hsb hxb hnb hpb
  generalize World.alloc (World.alloc (World.alloc (World.alloc (World.alloc w _) _) _) _) _ = W5 at *
  obtain ⟨a0, a1, a2, a3, a4, a5⟩ := hA
  have HB5 := Lib.hid (show PB w w.heap.size xb nb pb sb ws 0 (pcs 0 0 (fun _ => 0) nilV nilV) W5 from ⟨a5, ⟨a1, Nat.zero_le _, 0, a2, fun _ => rfl⟩, a3, a0, a4⟩)
  clear a0 a1 a2 a3 a4 a5 hsb hxb hnb hpb HSP
  cases h0 : (if 0 < ws.length then ixR [stripsT, tubesT, filmT] (ws.getD 0 []) else none) with
  | none =>
    have HN := Lib.hid (line_none0 (ws := ws) (by rw [kind_ix]; split at h0; rw [if_pos (by assumption), h0]; rfl; rw [if_neg (by assumption)]))
    have HB5l := Lib.hid (HB5.out.quiet (rd_below W5 (wsObj [stripsT, tubesT, filmT])))
    have HO := Lib.hid (one_any HB5l.out.wd (by omega) HB5l.out.nx (al_new W5 (wsObj [stripsT, tubesT, filmT]) _ rfl) (Nat.ne_of_gt HB5.out.wd.xlt) (by decide))
    unfold OneRes at HO
    rw [h0] at HO
    go_wp2_with (go_at_call 76; refine HO.out.mono ?_; rintro e W6 ⟨hp, rfl⟩)
    simp only [bodyPost]
    exact ⟨trivial, HRN.out _ (HB5l.out.below.trans (hp.below CC.out.x)) HN.out⟩
  | some i0 =>
  have hl0 : 0 < ws.length := by
    by_cases h : 0 < ws.length
    · exact h
    · rw [if_neg h] at h0; cases h0
  have HK0 := Lib.hid (show kindR (ws.getD 0 []) = some (i0 : Int) by rw [kind_ix]; rw [if_pos hl0] at h0; rw [h0]; rfl)
  have HB5l := Lib.hid (HB5.out.quiet (rd_below W5 (wsObj [stripsT, tubesT, filmT])))
  have HO := Lib.hid (one_any HB5l.out.wd (by omega) HB5l.out.nx (al_new W5 (wsObj [stripsT, tubesT, filmT]) _ rfl) (Nat.ne_of_gt HB5.out.wd.xlt) (by decide))
  unfold OneRes at HO
  rw [h0] at HO
  clear h0
  go_upto_region 7 with (go_at_call 76; refine HO.out.mono ?_; rintro e W6 ⟨hp, rfl, hw⟩; have HB6 := Lib.hid (HB5l.out.pop CC.out hp hw); clear hp hw; have y0 : W6.cell? ⟨pb, 0, none⟩ = some (.int .i64 0) := cell_of_row _ _ 0 _ _ _ HB6.out.p; have y1 : W6.frozen? ⟨pb, 0, none⟩ = false := Lib.frozen_of_heap HB6.out.p 0)
  have HB7 := Lib.hid (HB6.out.put CC.out 0 (.int .i64 (i0 : Int)) (cells' := pcs i0 0 (fun _ => 0) nilV nilV) rfl)
  clear y0 y1 HB6 HB5l HB5 HO
  generalize World.setCell W6 _ _ = W7 at *
  cases h0 : (if 1 < ws.length then ixR [viewxT, viewyT] (ws.getD 1 []) else none) with
  | none =>
    have HN := Lib.hid (line_none1 (ws := ws) (by rw [view_ix]; split at h0; rw [if_pos (by assumption), h0]; rfl; rw [if_neg (by assumption)]))
    have HB7l := Lib.hid (HB7.out.quiet (rd_below W7 (wsObj [viewxT, viewyT])))
    have HO := Lib.hid (one_any HB7l.out.wd (by omega) HB7l.out.nx (al_new W7 (wsObj [viewxT, viewyT]) _ rfl) (Nat.ne_of_gt HB7.out.wd.xlt) (by decide))
    unfold OneRes at HO
    rw [show 0 + 1 = 1 from rfl, h0] at HO
    go_wp2_with (go_at_call 76; refine HO.out.mono ?_; rintro e W8 ⟨hp, rfl⟩)
    simp only [bodyPost]
    exact ⟨trivial, HRN.out _ (HB7l.out.below.trans (hp.below CC.out.x)) HN.out⟩
  | some i1 =>
  have hl1 : 1 < ws.length := by
    by_cases h : 1 < ws.length
    · exact h
    · rw [if_neg h] at h0; cases h0
  have HK1 := Lib.hid (show viewR (ws.getD 1 []) = some (i1 : Int) by rw [view_ix]; rw [if_pos hl1] at h0; rw [h0]; rfl)
  have HB7l := Lib.hid (HB7.out.quiet (rd_below W7 (wsObj [viewxT, viewyT])))
  have HO := Lib.hid (one_any HB7l.out.wd (by omega) HB7l.out.nx (al_new W7 (wsObj [viewxT, viewyT]) _ rfl) (Nat.ne_of_gt HB7.out.wd.xlt) (by decide))
  unfold OneRes at HO
  rw [show 0 + 1 = 1 from rfl, h0] at HO
  clear h0
  go_upto_region 8 with (go_at_call 76; refine HO.out.mono ?_; rintro e W8 ⟨hp, rfl, hw⟩; have HB8 := Lib.hid (HB7l.out.pop CC.out hp hw); clear hp hw; have y0 : W8.cell? ⟨pb, 1, none⟩ = some (.int .i64 0) := cell_of_row _ _ 1 _ _ _ HB8.out.p; have y1 : W8.frozen? ⟨pb, 1, none⟩ = false := Lib.frozen_of_heap HB8.out.p 1)
  have HB9 := Lib.hid (HB8.out.put CC.out 1 (.int .i64 (i1 : Int)) (cells' := pcs i0 i1 (fun _ => 0) nilV nilV) rfl)
  clear y0 y1 HB8 HB7l HB7 HO hl0
  generalize World.setCell W8 _ _ = W9 at *
  go_upto_region 9 with (fail)
  have HFB := Lib.hid (al_new W9 (ptObj pb) _ rfl)
  have HB10 := Lib.hid (HB9.out.quiet (rd_below W9 (ptObj pb)))
  clear HB9
  generalize World.alloc W9 _ = W10 at *
  generalize W9.heap.size = fb at *
  go_loopw [43] (fun s43 wr => ∃ (i : Nat) (l : List Int), i ≤ 11 ∧ s43 = .int .i64 (i : Int) ∧ Hid (nmsR ((ws.drop 2).take i) = some l ∧ l.length = i) ∧ Hid (PB w w.heap.size xb nb pb sb ws (2 + i) (pcs i0 i1 (deF l) nilV nilV) wr) ∧ Hid (wr.heap[fb]? = some (ptObj pb))) (fun s43 _ => 11 - (intOf s43).toNat)
  case atStart => exact ⟨0, [], by omega, rfl, Lib.hid ⟨rfl, rfl⟩, HB10, HFB⟩
  case round =>
    clear HB10 HFB
    obtain ⟨i, l, hi, rfl, HL, HB, HF⟩ := hrel
    by_cases hli : i < 11
    · have hli' : (i : Int) < 11 := by omega
      have d0 := pt_at HF.out hli
      have d1 : wr.cell? ⟨nb, 0, none⟩ = some (.func (Fn.func 74) #[] #[.pointer (some ⟨xb, 0, none⟩)]) := cell_of_row _ _ 0 _ _ _ HB.out.nx
      by_cases hk : 2 + i < ws.length
      case neg =>
        have HN := Lib.hid (ns_fail HL.out.1 hli (Or.inl hk))
        have HX := Lib.hid (next_no HB.out.wd (by omega) hk)
        clear hk
        go_wp2_with (go_at_call 74; refine HX.out.mono ?_; rintro e W11 ⟨rfl, hp⟩)
        simp only [bodyPost]
        exact ⟨trivial, HRN.out _ (HB.out.below.trans (hp.below CC.out.x)) HN.out⟩
      case pos =>
        have HX := Lib.hid (next_yes HB.out.wd (by omega) hk)
        have HWY := HWL.out (2 + i)
        cases hn : nmR (ws.getD (2 + i) []) with
        | none =>
          have HN := Lib.hid (ns_fail HL.out.1 hli (Or.inr hn))
          have HY := Lib.hid (fun W => number_no HWY hn W)
          clear hk hn HWY
          generalize ws.getD (2 + i) [] = y at *
          go_wp2_with (first | (go_at_call 74; refine HX.out.mono ?_; rintro e W11 ⟨rfl, hp, hw⟩) | (go_at_call 52; refine (HY.out _).mono ?_; rintro e W12 ⟨rfl, hb12⟩))
          simp only [bodyPost]
          exact ⟨trivial, HRN.out _ ((HB.out.pop CC.out hp hw).quiet hb12).below HN.out⟩
        | some n =>
          have HY := Lib.hid (fun W => number_yes HWY hn W)
          have HL2 := Lib.hid (show nmsR ((ws.drop 2).take (i + 1)) = some (l ++ [n]) ∧ (l ++ [n]).length = i + 1 from ⟨ns_step HL.out.1 hk hn, by rw [List.length_append, HL.out.2]; rfl⟩)
          have HPS := Lib.hid (show (pcs i0 i1 (deF l) nilV nilV).setIfInBounds (2 + i) (.int .i64 n) = pcs i0 i1 (deF (l ++ [n])) nilV nilV from by
            rw [pcs_set hli]
            exact pcs_congr (fun j _ => by rw [deF_snoc, HL.out.2]))
          clear hk hn HWY
          generalize ws.getD (2 + i) [] = y at *
          go_wp2_with (first | (go_at_call 74; refine HX.out.mono ?_; rintro e W11 ⟨rfl, hp, hw⟩; have HF11 := Lib.hid ((hp.heap (blk_ne HF.out HB.out.wd.box.choose_spec.1 (by decide))).trans HF.out); have HB11 := Lib.hid (HB.out.pop CC.out hp hw); clear hp hw) | (go_at_call 52; refine (HY.out _).mono ?_; rintro e W12 ⟨rfl, hb12⟩; have HF12 := Lib.hid ((hb12.block _ (Array.getElem?_eq_some_iff.1 HF11.out).1).trans HF11.out); have HB12 := Lib.hid (HB11.out.quiet hb12); clear hb12; have y0 : W12.cell? ⟨pb, 2 + i, none⟩ = some (.int .i64 (deF l i)) := (cell_of_row _ _ _ _ _ _ HB12.out.p).trans (pcs_at hli); have y1 : W12.frozen? ⟨pb, 2 + i, none⟩ = false := Lib.frozen_of_heap HB12.out.p _))
          have HB13 := Lib.hid (HB12.out.put CC.out (2 + i) (.int .i64 n) HPS.out)
          have HF13 := Lib.hid ((Below.heap_setCell W12 ⟨pb, 2 + i, none⟩ (.int .i64 n) fb (blk_ne HF12.out HB12.out.p (by decide))).trans HF12.out)
          clear y0 y1 HB12 HF12
          go_roundw
          case rel => exact ⟨i + 1, l ++ [n], by omega, by go_num, HL2, HB13, HF13⟩
          case measure => simp [intOf]; omega
    · obtain rfl : i = 11 := by omega
      have hli' : ¬ (11 : Int) < 11 := by omega
      clear HF
      have h13 : 13 ≤ ws.length := HB.out.wd.le
      have HLS := Lib.hid (line_some HK0.out HK1.out h13 HL.out.1)
      have HLL := Lib.hid HL.out.2
      have HM := Lib.hid (more_words HB.out.wd (by omega) driftT)
      clear hi hli HL HK0 HK1 hl1
      go_upto_if 54 with (go_at_call 75; refine HM.out.mono ?_; rintro e W13 ⟨rfl, hp, hw⟩)
      have HB1 := Lib.hid (HB.out.pop CC.out hp hw)
      clear hp hw HM HB
      go_cut [10, 11, 54] from 55 to 93 (fun s10 s11 s54 wx => ∃ (k : Nat) (D : List DR) (dv : Value), Hid (tailR (ws.drop 13) = (deR (ws.drop k)).map fun e => (D, e)) ∧ Hid (PB w w.heap.size xb nb pb sb ws k (pcs i0 i1 (deF l) dv nilV) wx) ∧ Hid (wx.ownsRow w.heap.size 71 3 dv D.length (drC D)))
      case first =>
        cases hb : moreB ws (2 + 11) driftT with
        | false =>
          have HT := Lib.hid (tail_no hb)
          rw [hb, if_neg (by decide)] at HB1
          go_wp2
          go_meet
          exact ⟨13, [], nilV, HT, HB1, Lib.hid (World.ownsRow_nil _ _ _ _)⟩
        | true =>
          have HMT := Lib.hid hb
          rw [hb, if_pos rfl] at HB1
          go_upto_region 15 with (fail)
          go_loopw [10] (fun s10 wr => ∃ (j : Nat) (D : List DR) (dv : Value), s10 = .bool (decide (j = 0)) ∧ Hid (DrInv ws (13 + 1) j D) ∧ Hid (PB w w.heap.size xb nb pb sb ws (13 + 1 + j) (pcs i0 i1 (deF l) dv nilV) wr) ∧ Hid (wr.ownsRow w.heap.size 71 3 dv D.length (drC D))) (fun s10 wr => wLen xb wr)
          case atStart => exact ⟨0, [], nilV, rfl, Lib.hid (DrInv.start _ _), HB1, Lib.hid (World.ownsRow_nil _ _ _ _)⟩
          case round =>
            clear HB1
            obtain ⟨j, D, dv, rfl, HI, HB, HD⟩ := hrel
            have HMS := Lib.hid (wLen_is HB.out.wd)
            have hk14 := HB.out.wd.le
            generalize hk : 13 + 1 + j = k at *
            go_upto_region 15 with (fail)
            go_cut [10, 66] from 55 to 66 (fun s10 s66 wx => s66 = .bool (decide (j = 0 ∨ (k < ws.length ∧ ¬ ws.getD k [] = deadT))) ∧ wx = wr)
            case first =>
              obtain ⟨xa, hxa, hak⟩ := HB.out.wd.box
              have HWD := Lib.hid (fun hi => HB.out.wd.word (i := k) hi)
              have x0 := cell_of_row _ _ 0 _ _ _ hxa
              clear hxa
              by_cases hj : j = 0
              · have hd : decide (j = 0) = true := decide_eq_true hj
                have hd2 : decide (j = 0 ∨ (k < ws.length ∧ ¬ ws.getD k [] = deadT)) = true := decide_eq_true (.inl hj)
                rw [hd]
                have HD2 := Lib.hid hd2
                clear hd hd2 HWD x0 hj hk
                go_wp2
                go_meet
                exact ⟨by rw [HD2.out], rfl⟩
              · have hd : decide (j = 0) = false := decide_eq_false hj
                by_cases hkl : k < ws.length
                · obtain rfl := hak hkl
                  have d0 := HWD.out hkl
                  obtain ⟨m, hm⟩ : ∃ m, ws.length - xa = m + 1 := ⟨ws.length - xa - 1, by omega⟩
                  rw [hm] at x0
                  have h1 : (0 : Int) < ((m + 1 : Nat) : Int) := by omega
                  by_cases hz : ws.getD xa [] = deadT
                  · have hd2 : decide (j = 0 ∨ (xa < ws.length ∧ ¬ ws.getD xa [] = deadT)) = false := decide_eq_false (fun h => h.elim hj (fun h => h.2 hz))
                    rw [hd]
                    rw [hz] at d0
                    have HD2 := Lib.hid hd2
                    clear hd hd2 HWD hj hk hz hm hkl hak
                    go_wp2
                    go_meet
                    exact ⟨by rw [HD2.out]; rfl, rfl⟩
                  · have hd2 : decide (j = 0 ∨ (xa < ws.length ∧ ¬ ws.getD xa [] = deadT)) = true := decide_eq_true (.inr ⟨hkl, hz⟩)
                    rw [hd]
                    have hz' : (ws.getD xa [] == deadT) = false := by simpa using hz
                    have HD2 := Lib.hid hd2
                    clear hd hd2 HWD hj hk hz hm hkl hak
                    generalize ws.getD xa [] = y at *
                    go_wp2
                    go_meet
                    exact ⟨by rw [HD2.out]; show Value.bool (!(y == deadT)) = _; rw [hz']; rfl, rfl⟩
                · have hd2 : decide (j = 0 ∨ (k < ws.length ∧ ¬ ws.getD k [] = deadT)) = false := decide_eq_false (fun h => h.elim hj (fun h => hkl h.1))
                  rw [hd]
                  have hm : ws.length - k = 0 := by omega
                  rw [hm] at x0
                  have HD2 := Lib.hid hd2
                  clear hd hd2 HWD hj hk hkl hak
                  go_wp2
                  go_meet
                  exact ⟨by rw [HD2.out], rfl⟩
            case rest =>
              obtain ⟨rfl, rfl⟩ := hcut
              by_cases hgo : j = 0 ∨ (k < ws.length ∧ ¬ ws.getD k [] = deadT)
              case neg =>
                have HT := Lib.hid (hk ▸ HI.out.fin HMT.out (fun h => hgo (.inl h)) (by
                  rw [hk]
                  by_cases h1 : k < ws.length
                  · right
                    by_cases h2 : ws.getD k [] = deadT
                    · exact h2
                    · exact absurd (.inr ⟨h1, h2⟩) hgo
                  · exact .inl h1))
                rw [decide_eq_false hgo]
                clear hgo
                go_wp2
                go_meet
                exact ⟨k, D, dv, HT, HB, HD⟩
              case pos =>
                rw [decide_eq_true hgo]
                have HWY := Lib.hid (HWL.out k)
                have d1 : wc.cell? ⟨nb, 0, none⟩ = some (.func (Fn.func 74) #[] #[.pointer (some ⟨xb, 0, none⟩)]) := cell_of_row _ _ 0 _ _ _ HB.out.nx
                by_cases hkl : k < ws.length
                case neg =>
                  have hj : j = 0 := by rcases hgo with h | h; exact h; exact absurd h.1 hkl
                  have HN := Lib.hid (show lineR ws = none from by rw [HLS.out, DrInv.none HMT.out (by omega)]; rfl)
                  have HX := Lib.hid (next_no HB.out.wd (by omega) hkl)
                  clear hkl hj hgo hk
                  go_wp2_with (go_at_call 74; refine HX.out.mono ?_; rintro e W11 ⟨rfl, hp⟩)
                  simp only [bodyPost]
                  exact ⟨trivial, HRN.out _ (HB.out.below.trans (hp.below CC.out.x)) HN.out⟩
                case pos =>
                  obtain ⟨da, dc, rfl⟩ := own_len HD.out
                  have HX := Lib.hid (next_yes HB.out.wd (by omega) hkl)
                  have HF := Lib.hid (fun (h : drR3 (spl 58 (ws.getD k [])) = none) => show lineR ws = none from by
                    subst hk
                    rw [HLS.out, HI.out.fail HMT.out hkl h (hgo.imp id (fun h => h.2))]
                    rfl)
                  have HST := Lib.hid (fun d (h : drR3 (spl 58 (ws.getD k [])) = some d) => show DrInv ws (13 + 1) (j + 1) (D ++ [d]) from by
                    subst hk
                    exact HI.out.step hkl h)
                  have hDl : D.length ≤ 60001 := by have := HI.out.len; omega
                  have HK1 := Lib.hid (show 13 + 1 + (j + 1) = k + 1 by omega)
                  have hk2 : ws.length - (k + 1) < ws.length - k := by omega
                  have HKM := Lib.hid hk2
                  have HSY := Lib.hid (fun (W : World) (h : HasMax W) => psplit_any 58 (ws.getD k []) (by have := HWY.out; omega) W h)
                  have HPL := Lib.hid (fun (z : Tx) (hz : z ∈ spl 58 (ws.getD k [])) => show z.length ≤ 60000 from Nat.le_trans (spl_wlen _ _ _ hz) HWY.out)
                  clear hgo hkl hk hk2 HWY HI
                  generalize ws.getD k [] = y at *
                  generalize spl 58 y = ps at *
                  by_cases h3 : ps.length = 3
                  case neg =>
                    have HN := Lib.hid (HF.out (dr3_len h3))
                    have h3' : ((ps.length : Int) == 3) = false := by rw [beq_eq_false_iff_ne]; omega
                    clear h3
                    go_wp2_with (first | (go_at_call 74; refine HX.out.mono ?_; rintro e W11 ⟨rfl, hp, hw⟩; have HB11 := Lib.hid (HB.out.pop CC.out hp hw); clear hp hw) | (go_at_call 50; refine (HSY.out _ (HMX.out _ HB11.out.below)).mono ?_; rintro e W12 ⟨rfl, rfl⟩))
                    simp only [bodyPost]
                    exact ⟨trivial, HRN.out _ ((HB11.out.quiet (rd_below _ _)).below) HN.out⟩
                  case pos =>
                    obtain ⟨a, b, c, rfl⟩ : ∃ a b c, ps = [a, b, c] := by
                      match ps, h3 with
                      | [a, b, c], _ => exact ⟨a, b, c, rfl⟩
                    clear h3
                    go_upto_region 20 with (first | (go_at_call 74; refine HX.out.mono ?_; rintro e W11 ⟨rfl, hp, hw⟩; have HB11 := Lib.hid (HB.out.pop CC.out hp hw); have HD11 := Lib.hid (row_Pop HD.out HB.out.wd (by decide) hp); clear hp hw) | (go_at_call 50; refine (HSY.out _ (HMX.out _ HB11.out.below)).mono ?_; rintro e W12 ⟨rfl, rfl⟩))
                    have HB2 := Lib.hid (HB11.out.quiet (rd_below W11 (wsObj [a, b, c])))
                    have HD2 := Lib.hid (own_below HD11.out (rd_below W11 (wsObj [a, b, c])))
                    have HQ2 := Lib.hid (al_new W11 (wsObj [a, b, c]) _ rfl)
                    clear HB HD HB11 HD11 d1 HX HSY
                    generalize World.alloc W11 _ = Wd at *
                    generalize W11.heap.size = qb at *
                    have la := HPL.out a (by simp)
                    have lb := HPL.out b (by simp)
                    have lc := HPL.out c (by simp)
                    clear HPL
                    cases na : nmR a with
                    | none =>
                      have HN := Lib.hid (HF.out (by simp only [drR3, na]))
                      have HY := Lib.hid (fun W => number_no la na W)
                      clear na la lb lc HF HST
                      (refine wp_region_any (by kernel_rfl) ?_; change wpAny _ _ _ _ _ _ _ (World.drew Wd); have HB3 := Lib.hid (HB2.out.quiet ((Below.refl _ _).drew)); have HD3 := Lib.hid (HD2.out.drew); have HQ3 := Lib.hid (show (World.drew Wd).heap[qb]? = _ from HQ2.out); clear HB2 HD2 HQ2; generalize World.drew Wd = W0 at *; refine any_of_tail 18 18 (fun w' => w'.heap[pb]? = some (.cells (pcs i0 i1 (deF l) (.slice da D.length dc) nilV) 42) ∧ w'.heap[qb]? = some (wsObj [a, b, c])) (by kernel_rfl) ⟨HB3.out.p, HQ3.out⟩ (fun hS => ?_); refine headH_take (i := 0) (v := ?_) rfl (by kernel_rfl) (fun _ _ _ h => h) (Or.inl ⟨by rfl, ?_⟩) (by assumption) ?_; rotate_left; (· intro w' hSw; obtain ⟨z1, z2⟩ := hSw; have k0 := (cell_of_row _ _ 13 _ _ _ z1).trans (show _ = some (Value.slice da D.length dc) from rfl); have k1 := (cell_of_row _ _ 0 _ _ _ z2).trans (show _ = some (Value.string ⟨a.toArray⟩) from rfl); have k2 := (cell_of_row _ _ 1 _ _ _ z2).trans (show _ = some (Value.string ⟨b.toArray⟩) from rfl); have k3 := (cell_of_row _ _ 2 _ _ _ z2).trans (show _ = some (Value.string ⟨c.toArray⟩) from rfl); clear z1 z2; (try simp only [List.getElem_toArray, List.getElem_cons_zero, List.getElem_cons_succ]); go_simp; (try with_reducible rfl)); (try simp only [List.getElem_toArray, List.getElem_cons_zero, List.getElem_cons_succ]); (try dsimp only [Act.put]); (try simp only [List.setIfInBounds_toArray, List.set_cons_zero, List.set_cons_succ]); refine headH_take (i := 1) (v := ?_) rfl (by kernel_rfl) (fun _ _ _ h => h) (Or.inl ⟨by rfl, ?_⟩) (by assumption) ?_; rotate_left; (· intro w' hSw; obtain ⟨z1, z2⟩ := hSw; have k0 := (cell_of_row _ _ 13 _ _ _ z1).trans (show _ = some (Value.slice da D.length dc) from rfl); have k1 := (cell_of_row _ _ 0 _ _ _ z2).trans (show _ = some (Value.string ⟨a.toArray⟩) from rfl); have k2 := (cell_of_row _ _ 1 _ _ _ z2).trans (show _ = some (Value.string ⟨b.toArray⟩) from rfl); have k3 := (cell_of_row _ _ 2 _ _ _ z2).trans (show _ = some (Value.string ⟨c.toArray⟩) from rfl); clear z1 z2; (try simp only [List.getElem_toArray, List.getElem_cons_zero, List.getElem_cons_succ]); go_simp; (try with_reducible rfl)); (try simp only [List.getElem_toArray, List.getElem_cons_zero, List.getElem_cons_succ]); (try dsimp only [Act.put]); (try simp only [List.setIfInBounds_toArray, List.set_cons_zero, List.set_cons_succ]); refine headH_take (i := 2) (v := ?_) rfl (by kernel_rfl) (fun _ _ _ h => h) (Or.inl ⟨by rfl, ?_⟩) (by assumption) ?_; rotate_left; (· intro w' hSw; obtain ⟨z1, z2⟩ := hSw; have k0 := (cell_of_row _ _ 13 _ _ _ z1).trans (show _ = some (Value.slice da D.length dc) from rfl); have k1 := (cell_of_row _ _ 0 _ _ _ z2).trans (show _ = some (Value.string ⟨a.toArray⟩) from rfl); have k2 := (cell_of_row _ _ 1 _ _ _ z2).trans (show _ = some (Value.string ⟨b.toArray⟩) from rfl); have k3 := (cell_of_row _ _ 2 _ _ _ z2).trans (show _ = some (Value.string ⟨c.toArray⟩) from rfl); clear z1 z2; (try simp only [List.getElem_toArray, List.getElem_cons_zero, List.getElem_cons_succ]); go_simp; (try with_reducible rfl)); (try simp only [List.getElem_toArray, List.getElem_cons_zero, List.getElem_cons_succ]); (try dsimp only [Act.put]); (try simp only [List.setIfInBounds_toArray, List.set_cons_zero, List.set_cons_succ]); refine headH_take (i := 3) (v := ?_) rfl (by kernel_rfl) (fun _ _ _ h => h) (Or.inl ⟨by rfl, ?_⟩) (by assumption) ?_; rotate_left; (· intro w' hSw; obtain ⟨z1, z2⟩ := hSw; have k0 := (cell_of_row _ _ 13 _ _ _ z1).trans (show _ = some (Value.slice da D.length dc) from rfl); have k1 := (cell_of_row _ _ 0 _ _ _ z2).trans (show _ = some (Value.string ⟨a.toArray⟩) from rfl); have k2 := (cell_of_row _ _ 1 _ _ _ z2).trans (show _ = some (Value.string ⟨b.toArray⟩) from rfl); have k3 := (cell_of_row _ _ 2 _ _ _ z2).trans (show _ = some (Value.string ⟨c.toArray⟩) from rfl); clear z1 z2; (try simp only [List.getElem_toArray, List.getElem_cons_zero, List.getElem_cons_succ]); go_simp; (try with_reducible rfl)); (try simp only [List.getElem_toArray, List.getElem_cons_zero, List.getElem_cons_succ]); (try dsimp only [Act.put]); (try simp only [List.setIfInBounds_toArray, List.set_cons_zero, List.set_cons_succ]); refine headH_take (i := 4) (v := ?_) rfl (by kernel_rfl) (fun _ _ _ h => h) (Or.inl ⟨by rfl, ?_⟩) (by assumption) ?_; rotate_left; (· intro w' hSw; obtain ⟨z1, z2⟩ := hSw; have k0 := (cell_of_row _ _ 13 _ _ _ z1).trans (show _ = some (Value.slice da D.length dc) from rfl); have k1 := (cell_of_row _ _ 0 _ _ _ z2).trans (show _ = some (Value.string ⟨a.toArray⟩) from rfl); have k2 := (cell_of_row _ _ 1 _ _ _ z2).trans (show _ = some (Value.string ⟨b.toArray⟩) from rfl); have k3 := (cell_of_row _ _ 2 _ _ _ z2).trans (show _ = some (Value.string ⟨c.toArray⟩) from rfl); clear z1 z2; (try simp only [List.getElem_toArray, List.getElem_cons_zero, List.getElem_cons_succ]); go_simp; (try with_reducible rfl)); (try simp only [List.getElem_toArray, List.getElem_cons_zero, List.getElem_cons_succ]); (try dsimp only [Act.put]); (try simp only [List.setIfInBounds_toArray, List.set_cons_zero, List.set_cons_succ]); refine headH_take (i := 6) (v := ?_) rfl (by kernel_rfl) (fun _ _ _ h => h) (Or.inl ⟨by rfl, ?_⟩) (by assumption) ?_; rotate_left; (· intro w' hSw; obtain ⟨z1, z2⟩ := hSw; have k0 := (cell_of_row _ _ 13 _ _ _ z1).trans (show _ = some (Value.slice da D.length dc) from rfl); have k1 := (cell_of_row _ _ 0 _ _ _ z2).trans (show _ = some (Value.string ⟨a.toArray⟩) from rfl); have k2 := (cell_of_row _ _ 1 _ _ _ z2).trans (show _ = some (Value.string ⟨b.toArray⟩) from rfl); have k3 := (cell_of_row _ _ 2 _ _ _ z2).trans (show _ = some (Value.string ⟨c.toArray⟩) from rfl); clear z1 z2; (try simp only [List.getElem_toArray, List.getElem_cons_zero, List.getElem_cons_succ]); go_simp; (try with_reducible rfl)); (try simp only [List.getElem_toArray, List.getElem_cons_zero, List.getElem_cons_succ]); (try dsimp only [Act.put]); (try simp only [List.setIfInBounds_toArray, List.set_cons_zero, List.set_cons_succ]); refine headH_take (i := 7) (v := ?_) rfl (by kernel_rfl) (fun _ _ _ h => h) (Or.inl ⟨by rfl, ?_⟩) (by assumption) ?_; rotate_left; (· intro w' hSw; obtain ⟨z1, z2⟩ := hSw; have k0 := (cell_of_row _ _ 13 _ _ _ z1).trans (show _ = some (Value.slice da D.length dc) from rfl); have k1 := (cell_of_row _ _ 0 _ _ _ z2).trans (show _ = some (Value.string ⟨a.toArray⟩) from rfl); have k2 := (cell_of_row _ _ 1 _ _ _ z2).trans (show _ = some (Value.string ⟨b.toArray⟩) from rfl); have k3 := (cell_of_row _ _ 2 _ _ _ z2).trans (show _ = some (Value.string ⟨c.toArray⟩) from rfl); clear z1 z2; (try simp only [List.getElem_toArray, List.getElem_cons_zero, List.getElem_cons_succ]); go_simp; (try with_reducible rfl)); (try simp only [List.getElem_toArray, List.getElem_cons_zero, List.getElem_cons_succ]); (try dsimp only [Act.put]); (try simp only [List.setIfInBounds_toArray, List.set_cons_zero, List.set_cons_succ]); refine headH_take (i := 8) (v := ?_) rfl (by kernel_rfl) (fun _ _ _ h => h) (Or.inl ⟨by rfl, ?_⟩) (by assumption) ?_; rotate_left; (· intro w' hSw; obtain ⟨z1, z2⟩ := hSw; have k0 := (cell_of_row _ _ 13 _ _ _ z1).trans (show _ = some (Value.slice da D.length dc) from rfl); have k1 := (cell_of_row _ _ 0 _ _ _ z2).trans (show _ = some (Value.string ⟨a.toArray⟩) from rfl); have k2 := (cell_of_row _ _ 1 _ _ _ z2).trans (show _ = some (Value.string ⟨b.toArray⟩) from rfl); have k3 := (cell_of_row _ _ 2 _ _ _ z2).trans (show _ = some (Value.string ⟨c.toArray⟩) from rfl); clear z1 z2; (try simp only [List.getElem_toArray, List.getElem_cons_zero, List.getElem_cons_succ]); go_simp; (try with_reducible rfl)); (try simp only [List.getElem_toArray, List.getElem_cons_zero, List.getElem_cons_succ]); (try dsimp only [Act.put]); (try simp only [List.setIfInBounds_toArray, List.set_cons_zero, List.set_cons_succ]); refine headH_take (i := 10) (v := ?_) rfl (by kernel_rfl) (fun _ _ _ h => h) (Or.inl ⟨by rfl, ?_⟩) (by assumption) ?_; rotate_left; (· intro w' hSw; obtain ⟨z1, z2⟩ := hSw; have k0 := (cell_of_row _ _ 13 _ _ _ z1).trans (show _ = some (Value.slice da D.length dc) from rfl); have k1 := (cell_of_row _ _ 0 _ _ _ z2).trans (show _ = some (Value.string ⟨a.toArray⟩) from rfl); have k2 := (cell_of_row _ _ 1 _ _ _ z2).trans (show _ = some (Value.string ⟨b.toArray⟩) from rfl); have k3 := (cell_of_row _ _ 2 _ _ _ z2).trans (show _ = some (Value.string ⟨c.toArray⟩) from rfl); clear z1 z2; (try simp only [List.getElem_toArray, List.getElem_cons_zero, List.getElem_cons_succ]); go_simp; (try with_reducible rfl)); (try simp only [List.getElem_toArray, List.getElem_cons_zero, List.getElem_cons_succ]); (try dsimp only [Act.put]); (try simp only [List.setIfInBounds_toArray, List.set_cons_zero, List.set_cons_succ]); refine headH_take (i := 11) (v := ?_) rfl (by kernel_rfl) (fun _ _ _ h => h) (Or.inl ⟨by rfl, ?_⟩) (by assumption) ?_; rotate_left; (· intro w' hSw; obtain ⟨z1, z2⟩ := hSw; have k0 := (cell_of_row _ _ 13 _ _ _ z1).trans (show _ = some (Value.slice da D.length dc) from rfl); have k1 := (cell_of_row _ _ 0 _ _ _ z2).trans (show _ = some (Value.string ⟨a.toArray⟩) from rfl); have k2 := (cell_of_row _ _ 1 _ _ _ z2).trans (show _ = some (Value.string ⟨b.toArray⟩) from rfl); have k3 := (cell_of_row _ _ 2 _ _ _ z2).trans (show _ = some (Value.string ⟨c.toArray⟩) from rfl); clear z1 z2; (try simp only [List.getElem_toArray, List.getElem_cons_zero, List.getElem_cons_succ]); go_simp; (try with_reducible rfl)); (try simp only [List.getElem_toArray, List.getElem_cons_zero, List.getElem_cons_succ]); (try dsimp only [Act.put]); (try simp only [List.setIfInBounds_toArray, List.set_cons_zero, List.set_cons_succ]); refine headH_take (i := 12) (v := ?_) rfl (by kernel_rfl) (fun _ _ _ h => h) (Or.inl ⟨by rfl, ?_⟩) (by assumption) ?_; rotate_left; (· intro w' hSw; obtain ⟨z1, z2⟩ := hSw; have k0 := (cell_of_row _ _ 13 _ _ _ z1).trans (show _ = some (Value.slice da D.length dc) from rfl); have k1 := (cell_of_row _ _ 0 _ _ _ z2).trans (show _ = some (Value.string ⟨a.toArray⟩) from rfl); have k2 := (cell_of_row _ _ 1 _ _ _ z2).trans (show _ = some (Value.string ⟨b.toArray⟩) from rfl); have k3 := (cell_of_row _ _ 2 _ _ _ z2).trans (show _ = some (Value.string ⟨c.toArray⟩) from rfl); clear z1 z2; (try simp only [List.getElem_toArray, List.getElem_cons_zero, List.getElem_cons_succ]); go_simp; (try with_reducible rfl)); (try simp only [List.getElem_toArray, List.getElem_cons_zero, List.getElem_cons_succ]); (try dsimp only [Act.put]); (try simp only [List.setIfInBounds_toArray, List.set_cons_zero, List.set_cons_succ]))
                      refine headH_all (rs := [5]) (by kernel_rfl) (by simp) (by kernel_rfl) ?_; intro i0 hi0; simp only [List.mem_cons, List.not_mem_nil, or_false] at hi0; subst hi0
                      (refine headH_op rfl (fun K hK => ?_); (try simp only [List.getElem_toArray, List.getElem_cons_zero, List.getElem_cons_succ]); go_simp)
                      (refine (HY.out _).mono ?_; rintro e W1 ⟨rfl, hb⟩; (try dsimp only); go_wp2; simp only [bodyPost]; exact ⟨trivial, HRN.out _ (HB3.out.quiet hb).below HN.out⟩)
                    | some ia =>
                    have HYa := Lib.hid (fun W => number_yes la na W)
                    cases nb2 : nmR b with
                    | none =>
                      have HN := Lib.hid (HF.out (by simp only [drR3, na, nb2]))
                      have HY := Lib.hid (fun W => number_no lb nb2 W)
                      clear na nb2 la lb lc HF HST
                      (refine wp_region_any (by kernel_rfl) ?_; change wpAny _ _ _ _ _ _ _ (World.drew Wd); have HB3 := Lib.hid (HB2.out.quiet ((Below.refl _ _).drew)); have HD3 := Lib.hid (HD2.out.drew); have HQ3 := Lib.hid (show (World.drew Wd).heap[qb]? = _ from HQ2.out); clear HB2 HD2 HQ2; generalize World.drew Wd = W0 at *; refine any_of_tail 18 18 (fun w' => w'.heap[pb]? = some (.cells (pcs i0 i1 (deF l) (.slice da D.length dc) nilV) 42) ∧ w'.heap[qb]? = some (wsObj [a, b, c])) (by kernel_rfl) ⟨HB3.out.p, HQ3.out⟩ (fun hS => ?_); refine headH_take (i := 0) (v := ?_) rfl (by kernel_rfl) (fun _ _ _ h => h) (Or.inl ⟨by rfl, ?_⟩) (by assumption) ?_; rotate_left; (· intro w' hSw; obtain ⟨z1, z2⟩ := hSw; have k0 := (cell_of_row _ _ 13 _ _ _ z1).trans (show _ = some (Value.slice da D.length dc) from rfl); have k1 := (cell_of_row _ _ 0 _ _ _ z2).trans (show _ = some (Value.string ⟨a.toArray⟩) from rfl); have k2 := (cell_of_row _ _ 1 _ _ _ z2).trans (show _ = some (Value.string ⟨b.toArray⟩) from rfl); have k3 := (cell_of_row _ _ 2 _ _ _ z2).trans (show _ = some (Value.string ⟨c.toArray⟩) from rfl); clear z1 z2; (try simp only [List.getElem_toArray, List.getElem_cons_zero, List.getElem_cons_succ]); go_simp; (try with_reducible rfl)); (try simp only [List.getElem_toArray, List.getElem_cons_zero, List.getElem_cons_succ]); (try dsimp only [Act.put]); (try simp only [List.setIfInBounds_toArray, List.set_cons_zero, List.set_cons_succ]); refine headH_take (i := 1) (v := ?_) rfl (by kernel_rfl) (fun _ _ _ h => h) (Or.inl ⟨by rfl, ?_⟩) (by assumption) ?_; rotate_left; (· intro w' hSw; obtain ⟨z1, z2⟩ := hSw; have k0 := (cell_of_row _ _ 13 _ _ _ z1).trans (show _ = some (Value.slice da D.length dc) from rfl); have k1 := (cell_of_row _ _ 0 _ _ _ z2).trans (show _ = some (Value.string ⟨a.toArray⟩) from rfl); have k2 := (cell_of_row _ _ 1 _ _ _ z2).trans (show _ = some (Value.string ⟨b.toArray⟩) from rfl); have k3 := (cell_of_row _ _ 2 _ _ _ z2).trans (show _ = some (Value.string ⟨c.toArray⟩) from rfl); clear z1 z2; (try simp only [List.getElem_toArray, List.getElem_cons_zero, List.getElem_cons_succ]); go_simp; (try with_reducible rfl)); (try simp only [List.getElem_toArray, List.getElem_cons_zero, List.getElem_cons_succ]); (try dsimp only [Act.put]); (try simp only [List.setIfInBounds_toArray, List.set_cons_zero, List.set_cons_succ]); refine headH_take (i := 2) (v := ?_) rfl (by kernel_rfl) (fun _ _ _ h => h) (Or.inl ⟨by rfl, ?_⟩) (by assumption) ?_; rotate_left; (· intro w' hSw; obtain ⟨z1, z2⟩ := hSw; have k0 := (cell_of_row _ _ 13 _ _ _ z1).trans (show _ = some (Value.slice da D.length dc) from rfl); have k1 := (cell_of_row _ _ 0 _ _ _ z2).trans (show _ = some (Value.string ⟨a.toArray⟩) from rfl); have k2 := (cell_of_row _ _ 1 _ _ _ z2).trans (show _ = some (Value.string ⟨b.toArray⟩) from rfl); have k3 := (cell_of_row _ _ 2 _ _ _ z2).trans (show _ = some (Value.string ⟨c.toArray⟩) from rfl); clear z1 z2; (try simp only [List.getElem_toArray, List.getElem_cons_zero, List.getElem_cons_succ]); go_simp; (try with_reducible rfl)); (try simp only [List.getElem_toArray, List.getElem_cons_zero, List.getElem_cons_succ]); (try dsimp only [Act.put]); (try simp only [List.setIfInBounds_toArray, List.set_cons_zero, List.set_cons_succ]); refine headH_take (i := 3) (v := ?_) rfl (by kernel_rfl) (fun _ _ _ h => h) (Or.inl ⟨by rfl, ?_⟩) (by assumption) ?_; rotate_left; (· intro w' hSw; obtain ⟨z1, z2⟩ := hSw; have k0 := (cell_of_row _ _ 13 _ _ _ z1).trans (show _ = some (Value.slice da D.length dc) from rfl); have k1 := (cell_of_row _ _ 0 _ _ _ z2).trans (show _ = some (Value.string ⟨a.toArray⟩) from rfl); have k2 := (cell_of_row _ _ 1 _ _ _ z2).trans (show _ = some (Value.string ⟨b.toArray⟩) from rfl); have k3 := (cell_of_row _ _ 2 _ _ _ z2).trans (show _ = some (Value.string ⟨c.toArray⟩) from rfl); clear z1 z2; (try simp only [List.getElem_toArray, List.getElem_cons_zero, List.getElem_cons_succ]); go_simp; (try with_reducible rfl)); (try simp only [List.getElem_toArray, List.getElem_cons_zero, List.getElem_cons_succ]); (try dsimp only [Act.put]); (try simp only [List.setIfInBounds_toArray, List.set_cons_zero, List.set_cons_succ]); refine headH_take (i := 4) (v := ?_) rfl (by kernel_rfl) (fun _ _ _ h => h) (Or.inl ⟨by rfl, ?_⟩) (by assumption) ?_; rotate_left; (· intro w' hSw; obtain ⟨z1, z2⟩ := hSw; have k0 := (cell_of_row _ _ 13 _ _ _ z1).trans (show _ = some (Value.slice da D.length dc) from rfl); have k1 := (cell_of_row _ _ 0 _ _ _ z2).trans (show _ = some (Value.string ⟨a.toArray⟩) from rfl); have k2 := (cell_of_row _ _ 1 _ _ _ z2).trans (show _ = some (Value.string ⟨b.toArray⟩) from rfl); have k3 := (cell_of_row _ _ 2 _ _ _ z2).trans (show _ = some (Value.string ⟨c.toArray⟩) from rfl); clear z1 z2; (try simp only [List.getElem_toArray, List.getElem_cons_zero, List.getElem_cons_succ]); go_simp; (try with_reducible rfl)); (try simp only [List.getElem_toArray, List.getElem_cons_zero, List.getElem_cons_succ]); (try dsimp only [Act.put]); (try simp only [List.setIfInBounds_toArray, List.set_cons_zero, List.set_cons_succ]); refine headH_take (i := 6) (v := ?_) rfl (by kernel_rfl) (fun _ _ _ h => h) (Or.inl ⟨by rfl, ?_⟩) (by assumption) ?_; rotate_left; (· intro w' hSw; obtain ⟨z1, z2⟩ := hSw; have k0 := (cell_of_row _ _ 13 _ _ _ z1).trans (show _ = some (Value.slice da D.length dc) from rfl); have k1 := (cell_of_row _ _ 0 _ _ _ z2).trans (show _ = some (Value.string ⟨a.toArray⟩) from rfl); have k2 := (cell_of_row _ _ 1 _ _ _ z2).trans (show _ = some (Value.string ⟨b.toArray⟩) from rfl); have k3 := (cell_of_row _ _ 2 _ _ _ z2).trans (show _ = some (Value.string ⟨c.toArray⟩) from rfl); clear z1 z2; (try simp only [List.getElem_toArray, List.getElem_cons_zero, List.getElem_cons_succ]); go_simp; (try with_reducible rfl)); (try simp only [List.getElem_toArray, List.getElem_cons_zero, List.getElem_cons_succ]); (try dsimp only [Act.put]); (try simp only [List.setIfInBounds_toArray, List.set_cons_zero, List.set_cons_succ]); refine headH_take (i := 7) (v := ?_) rfl (by kernel_rfl) (fun _ _ _ h => h) (Or.inl ⟨by rfl, ?_⟩) (by assumption) ?_; rotate_left; (· intro w' hSw; obtain ⟨z1, z2⟩ := hSw; have k0 := (cell_of_row _ _ 13 _ _ _ z1).trans (show _ = some (Value.slice da D.length dc) from rfl); have k1 := (cell_of_row _ _ 0 _ _ _ z2).trans (show _ = some (Value.string ⟨a.toArray⟩) from rfl); have k2 := (cell_of_row _ _ 1 _ _ _ z2).trans (show _ = some (Value.string ⟨b.toArray⟩) from rfl); have k3 := (cell_of_row _ _ 2 _ _ _ z2).trans (show _ = some (Value.string ⟨c.toArray⟩) from rfl); clear z1 z2; (try simp only [List.getElem_toArray, List.getElem_cons_zero, List.getElem_cons_succ]); go_simp; (try with_reducible rfl)); (try simp only [List.getElem_toArray, List.getElem_cons_zero, List.getElem_cons_succ]); (try dsimp only [Act.put]); (try simp only [List.setIfInBounds_toArray, List.set_cons_zero, List.set_cons_succ]); refine headH_take (i := 8) (v := ?_) rfl (by kernel_rfl) (fun _ _ _ h => h) (Or.inl ⟨by rfl, ?_⟩) (by assumption) ?_; rotate_left; (· intro w' hSw; obtain ⟨z1, z2⟩ := hSw; have k0 := (cell_of_row _ _ 13 _ _ _ z1).trans (show _ = some (Value.slice da D.length dc) from rfl); have k1 := (cell_of_row _ _ 0 _ _ _ z2).trans (show _ = some (Value.string ⟨a.toArray⟩) from rfl); have k2 := (cell_of_row _ _ 1 _ _ _ z2).trans (show _ = some (Value.string ⟨b.toArray⟩) from rfl); have k3 := (cell_of_row _ _ 2 _ _ _ z2).trans (show _ = some (Value.string ⟨c.toArray⟩) from rfl); clear z1 z2; (try simp only [List.getElem_toArray, List.getElem_cons_zero, List.getElem_cons_succ]); go_simp; (try with_reducible rfl)); (try simp only [List.getElem_toArray, List.getElem_cons_zero, List.getElem_cons_succ]); (try dsimp only [Act.put]); (try simp only [List.setIfInBounds_toArray, List.set_cons_zero, List.set_cons_succ]); refine headH_take (i := 10) (v := ?_) rfl (by kernel_rfl) (fun _ _ _ h => h) (Or.inl ⟨by rfl, ?_⟩) (by assumption) ?_; rotate_left; (· intro w' hSw; obtain ⟨z1, z2⟩ := hSw; have k0 := (cell_of_row _ _ 13 _ _ _ z1).trans (show _ = some (Value.slice da D.length dc) from rfl); have k1 := (cell_of_row _ _ 0 _ _ _ z2).trans (show _ = some (Value.string ⟨a.toArray⟩) from rfl); have k2 := (cell_of_row _ _ 1 _ _ _ z2).trans (show _ = some (Value.string ⟨b.toArray⟩) from rfl); have k3 := (cell_of_row _ _ 2 _ _ _ z2).trans (show _ = some (Value.string ⟨c.toArray⟩) from rfl); clear z1 z2; (try simp only [List.getElem_toArray, List.getElem_cons_zero, List.getElem_cons_succ]); go_simp; (try with_reducible rfl)); (try simp only [List.getElem_toArray, List.getElem_cons_zero, List.getElem_cons_succ]); (try dsimp only [Act.put]); (try simp only [List.setIfInBounds_toArray, List.set_cons_zero, List.set_cons_succ]); refine headH_take (i := 11) (v := ?_) rfl (by kernel_rfl) (fun _ _ _ h => h) (Or.inl ⟨by rfl, ?_⟩) (by assumption) ?_; rotate_left; (· intro w' hSw; obtain ⟨z1, z2⟩ := hSw; have k0 := (cell_of_row _ _ 13 _ _ _ z1).trans (show _ = some (Value.slice da D.length dc) from rfl); have k1 := (cell_of_row _ _ 0 _ _ _ z2).trans (show _ = some (Value.string ⟨a.toArray⟩) from rfl); have k2 := (cell_of_row _ _ 1 _ _ _ z2).trans (show _ = some (Value.string ⟨b.toArray⟩) from rfl); have k3 := (cell_of_row _ _ 2 _ _ _ z2).trans (show _ = some (Value.string ⟨c.toArray⟩) from rfl); clear z1 z2; (try simp only [List.getElem_toArray, List.getElem_cons_zero, List.getElem_cons_succ]); go_simp; (try with_reducible rfl)); (try simp only [List.getElem_toArray, List.getElem_cons_zero, List.getElem_cons_succ]); (try dsimp only [Act.put]); (try simp only [List.setIfInBounds_toArray, List.set_cons_zero, List.set_cons_succ]); refine headH_take (i := 12) (v := ?_) rfl (by kernel_rfl) (fun _ _ _ h => h) (Or.inl ⟨by rfl, ?_⟩) (by assumption) ?_; rotate_left; (· intro w' hSw; obtain ⟨z1, z2⟩ := hSw; have k0 := (cell_of_row _ _ 13 _ _ _ z1).trans (show _ = some (Value.slice da D.length dc) from rfl); have k1 := (cell_of_row _ _ 0 _ _ _ z2).trans (show _ = some (Value.string ⟨a.toArray⟩) from rfl); have k2 := (cell_of_row _ _ 1 _ _ _ z2).trans (show _ = some (Value.string ⟨b.toArray⟩) from rfl); have k3 := (cell_of_row _ _ 2 _ _ _ z2).trans (show _ = some (Value.string ⟨c.toArray⟩) from rfl); clear z1 z2; (try simp only [List.getElem_toArray, List.getElem_cons_zero, List.getElem_cons_succ]); go_simp; (try with_reducible rfl)); (try simp only [List.getElem_toArray, List.getElem_cons_zero, List.getElem_cons_succ]); (try dsimp only [Act.put]); (try simp only [List.setIfInBounds_toArray, List.set_cons_zero, List.set_cons_succ]))
                      refine headH_all (rs := [5]) (by kernel_rfl) (by simp) (by kernel_rfl) ?_; intro i0 hi0; simp only [List.mem_cons, List.not_mem_nil, or_false] at hi0; subst hi0
                      (refine headH_op rfl (fun K hK => ?_); (try simp only [List.getElem_toArray, List.getElem_cons_zero, List.getElem_cons_succ]); go_simp)
                      (refine (HYa.out _).mono ?_; rintro e W1 ⟨rfl, hb⟩; have HBn := Lib.hid (HB3.out.quiet hb); have HDn := Lib.hid (own_below HD3.out hb); have HQn := Lib.hid ((hb.block _ (Array.getElem?_eq_some_iff.1 HQ3.out).1).trans HQ3.out); clear HB3 HD3 HQ3; have HB3 := HBn; have HD3 := HDn; have HQ3 := HQn; clear HBn HDn HQn hb; try dsimp only)
                      (refine hK.out _ _ ⟨HB3.out.p, HQ3.out⟩ (fun hS => ?_); clear hK K; (try simp only [List.getElem_toArray, List.getElem_cons_zero, List.getElem_cons_succ]); (try dsimp only [Act.put]); (try simp only [List.setIfInBounds_toArray, List.set_cons_zero, List.set_cons_succ]))
                      refine headH_all (rs := [9]) (by kernel_rfl) (by simp) (by kernel_rfl) ?_; intro i0 hi0; simp only [List.mem_cons, List.not_mem_nil, or_false] at hi0; subst hi0
                      (refine headH_op rfl (fun K hK => ?_); (try simp only [List.getElem_toArray, List.getElem_cons_zero, List.getElem_cons_succ]); go_simp)
                      (refine (HY.out _).mono ?_; rintro e W2 ⟨rfl, hb⟩; (try dsimp only); go_wp2; simp only [bodyPost]; exact ⟨trivial, HRN.out _ (HB3.out.quiet hb).below HN.out⟩)
                    | some ib =>
                    have HYb := Lib.hid (fun W => number_yes lb nb2 W)
                    cases nc : nmR c with
                    | none =>
                      have HN := Lib.hid (HF.out (by simp only [drR3, na, nb2, nc]))
                      have HY := Lib.hid (fun W => number_no lc nc W)
                      clear na nb2 nc la lb lc HF HST
                      (refine wp_region_any (by kernel_rfl) ?_; change wpAny _ _ _ _ _ _ _ (World.drew Wd); have HB3 := Lib.hid (HB2.out.quiet ((Below.refl _ _).drew)); have HD3 := Lib.hid (HD2.out.drew); have HQ3 := Lib.hid (show (World.drew Wd).heap[qb]? = _ from HQ2.out); clear HB2 HD2 HQ2; generalize World.drew Wd = W0 at *; refine any_of_tail 18 18 (fun w' => w'.heap[pb]? = some (.cells (pcs i0 i1 (deF l) (.slice da D.length dc) nilV) 42) ∧ w'.heap[qb]? = some (wsObj [a, b, c])) (by kernel_rfl) ⟨HB3.out.p, HQ3.out⟩ (fun hS => ?_); refine headH_take (i := 0) (v := ?_) rfl (by kernel_rfl) (fun _ _ _ h => h) (Or.inl ⟨by rfl, ?_⟩) (by assumption) ?_; rotate_left; (· intro w' hSw; obtain ⟨z1, z2⟩ := hSw; have k0 := (cell_of_row _ _ 13 _ _ _ z1).trans (show _ = some (Value.slice da D.length dc) from rfl); have k1 := (cell_of_row _ _ 0 _ _ _ z2).trans (show _ = some (Value.string ⟨a.toArray⟩) from rfl); have k2 := (cell_of_row _ _ 1 _ _ _ z2).trans (show _ = some (Value.string ⟨b.toArray⟩) from rfl); have k3 := (cell_of_row _ _ 2 _ _ _ z2).trans (show _ = some (Value.string ⟨c.toArray⟩) from rfl); clear z1 z2; (try simp only [List.getElem_toArray, List.getElem_cons_zero, List.getElem_cons_succ]); go_simp; (try with_reducible rfl)); (try simp only [List.getElem_toArray, List.getElem_cons_zero, List.getElem_cons_succ]); (try dsimp only [Act.put]); (try simp only [List.setIfInBounds_toArray, List.set_cons_zero, List.set_cons_succ]); refine headH_take (i := 1) (v := ?_) rfl (by kernel_rfl) (fun _ _ _ h => h) (Or.inl ⟨by rfl, ?_⟩) (by assumption) ?_; rotate_left; (· intro w' hSw; obtain ⟨z1, z2⟩ := hSw; have k0 := (cell_of_row _ _ 13 _ _ _ z1).trans (show _ = some (Value.slice da D.length dc) from rfl); have k1 := (cell_of_row _ _ 0 _ _ _ z2).trans (show _ = some (Value.string ⟨a.toArray⟩) from rfl); have k2 := (cell_of_row _ _ 1 _ _ _ z2).trans (show _ = some (Value.string ⟨b.toArray⟩) from rfl); have k3 := (cell_of_row _ _ 2 _ _ _ z2).trans (show _ = some (Value.string ⟨c.toArray⟩) from rfl); clear z1 z2; (try simp only [List.getElem_toArray, List.getElem_cons_zero, List.getElem_cons_succ]); go_simp; (try with_reducible rfl)); (try simp only [List.getElem_toArray, List.getElem_cons_zero, List.getElem_cons_succ]); (try dsimp only [Act.put]); (try simp only [List.setIfInBounds_toArray, List.set_cons_zero, List.set_cons_succ]); refine headH_take (i := 2) (v := ?_) rfl (by kernel_rfl) (fun _ _ _ h => h) (Or.inl ⟨by rfl, ?_⟩) (by assumption) ?_; rotate_left; (· intro w' hSw; obtain ⟨z1, z2⟩ := hSw; have k0 := (cell_of_row _ _ 13 _ _ _ z1).trans (show _ = some (Value.slice da D.length dc) from rfl); have k1 := (cell_of_row _ _ 0 _ _ _ z2).trans (show _ = some (Value.string ⟨a.toArray⟩) from rfl); have k2 := (cell_of_row _ _ 1 _ _ _ z2).trans (show _ = some (Value.string ⟨b.toArray⟩) from rfl); have k3 := (cell_of_row _ _ 2 _ _ _ z2).trans (show _ = some (Value.string ⟨c.toArray⟩) from rfl); clear z1 z2; (try simp only [List.getElem_toArray, List.getElem_cons_zero, List.getElem_cons_succ]); go_simp; (try with_reducible rfl)); (try simp only [List.getElem_toArray, List.getElem_cons_zero, List.getElem_cons_succ]); (try dsimp only [Act.put]); (try simp only [List.setIfInBounds_toArray, List.set_cons_zero, List.set_cons_succ]); refine headH_take (i := 3) (v := ?_) rfl (by kernel_rfl) (fun _ _ _ h => h) (Or.inl ⟨by rfl, ?_⟩) (by assumption) ?_; rotate_left; (· intro w' hSw; obtain ⟨z1, z2⟩ := hSw; have k0 := (cell_of_row _ _ 13 _ _ _ z1).trans (show _ = some (Value.slice da D.length dc) from rfl); have k1 := (cell_of_row _ _ 0 _ _ _ z2).trans (show _ = some (Value.string ⟨a.toArray⟩) from rfl); have k2 := (cell_of_row _ _ 1 _ _ _ z2).trans (show _ = some (Value.string ⟨b.toArray⟩) from rfl); have k3 := (cell_of_row _ _ 2 _ _ _ z2).trans (show _ = some (Value.string ⟨c.toArray⟩) from rfl); clear z1 z2; (try simp only [List.getElem_toArray, List.getElem_cons_zero, List.getElem_cons_succ]); go_simp; (try with_reducible rfl)); (try simp only [List.getElem_toArray, List.getElem_cons_zero, List.getElem_cons_succ]); (try dsimp only [Act.put]); (try simp only [List.setIfInBounds_toArray, List.set_cons_zero, List.set_cons_succ]); refine headH_take (i := 4) (v := ?_) rfl (by kernel_rfl) (fun _ _ _ h => h) (Or.inl ⟨by rfl, ?_⟩) (by assumption) ?_; rotate_left; (· intro w' hSw; obtain ⟨z1, z2⟩ := hSw; have k0 := (cell_of_row _ _ 13 _ _ _ z1).trans (show _ = some (Value.slice da D.length dc) from rfl); have k1 := (cell_of_row _ _ 0 _ _ _ z2).trans (show _ = some (Value.string ⟨a.toArray⟩) from rfl); have k2 := (cell_of_row _ _ 1 _ _ _ z2).trans (show _ = some (Value.string ⟨b.toArray⟩) from rfl); have k3 := (cell_of_row _ _ 2 _ _ _ z2).trans (show _ = some (Value.string ⟨c.toArray⟩) from rfl); clear z1 z2; (try simp only [List.getElem_toArray, List.getElem_cons_zero, List.getElem_cons_succ]); go_simp; (try with_reducible rfl)); (try simp only [List.getElem_toArray, List.getElem_cons_zero, List.getElem_cons_succ]); (try dsimp only [Act.put]); (try simp only [List.setIfInBounds_toArray, List.set_cons_zero, List.set_cons_succ]); refine headH_take (i := 6) (v := ?_) rfl (by kernel_rfl) (fun _ _ _ h => h) (Or.inl ⟨by rfl, ?_⟩) (by assumption) ?_; rotate_left; (· intro w' hSw; obtain ⟨z1, z2⟩ := hSw; have k0 := (cell_of_row _ _ 13 _ _ _ z1).trans (show _ = some (Value.slice da D.length dc) from rfl); have k1 := (cell_of_row _ _ 0 _ _ _ z2).trans (show _ = some (Value.string ⟨a.toArray⟩) from rfl); have k2 := (cell_of_row _ _ 1 _ _ _ z2).trans (show _ = some (Value.string ⟨b.toArray⟩) from rfl); have k3 := (cell_of_row _ _ 2 _ _ _ z2).trans (show _ = some (Value.string ⟨c.toArray⟩) from rfl); clear z1 z2; (try simp only [List.getElem_toArray, List.getElem_cons_zero, List.getElem_cons_succ]); go_simp; (try with_reducible rfl)); (try simp only [List.getElem_toArray, List.getElem_cons_zero, List.getElem_cons_succ]); (try dsimp only [Act.put]); (try simp only [List.setIfInBounds_toArray, List.set_cons_zero, List.set_cons_succ]); refine headH_take (i := 7) (v := ?_) rfl (by kernel_rfl) (fun _ _ _ h => h) (Or.inl ⟨by rfl, ?_⟩) (by assumption) ?_; rotate_left; (· intro w' hSw; obtain ⟨z1, z2⟩ := hSw; have k0 := (cell_of_row _ _ 13 _ _ _ z1).trans (show _ = some (Value.slice da D.length dc) from rfl); have k1 := (cell_of_row _ _ 0 _ _ _ z2).trans (show _ = some (Value.string ⟨a.toArray⟩) from rfl); have k2 := (cell_of_row _ _ 1 _ _ _ z2).trans (show _ = some (Value.string ⟨b.toArray⟩) from rfl); have k3 := (cell_of_row _ _ 2 _ _ _ z2).trans (show _ = some (Value.string ⟨c.toArray⟩) from rfl); clear z1 z2; (try simp only [List.getElem_toArray, List.getElem_cons_zero, List.getElem_cons_succ]); go_simp; (try with_reducible rfl)); (try simp only [List.getElem_toArray, List.getElem_cons_zero, List.getElem_cons_succ]); (try dsimp only [Act.put]); (try simp only [List.setIfInBounds_toArray, List.set_cons_zero, List.set_cons_succ]); refine headH_take (i := 8) (v := ?_) rfl (by kernel_rfl) (fun _ _ _ h => h) (Or.inl ⟨by rfl, ?_⟩) (by assumption) ?_; rotate_left; (· intro w' hSw; obtain ⟨z1, z2⟩ := hSw; have k0 := (cell_of_row _ _ 13 _ _ _ z1).trans (show _ = some (Value.slice da D.length dc) from rfl); have k1 := (cell_of_row _ _ 0 _ _ _ z2).trans (show _ = some (Value.string ⟨a.toArray⟩) from rfl); have k2 := (cell_of_row _ _ 1 _ _ _ z2).trans (show _ = some (Value.string ⟨b.toArray⟩) from rfl); have k3 := (cell_of_row _ _ 2 _ _ _ z2).trans (show _ = some (Value.string ⟨c.toArray⟩) from rfl); clear z1 z2; (try simp only [List.getElem_toArray, List.getElem_cons_zero, List.getElem_cons_succ]); go_simp; (try with_reducible rfl)); (try simp only [List.getElem_toArray, List.getElem_cons_zero, List.getElem_cons_succ]); (try dsimp only [Act.put]); (try simp only [List.setIfInBounds_toArray, List.set_cons_zero, List.set_cons_succ]); refine headH_take (i := 10) (v := ?_) rfl (by kernel_rfl) (fun _ _ _ h => h) (Or.inl ⟨by rfl, ?_⟩) (by assumption) ?_; rotate_left; (· intro w' hSw; obtain ⟨z1, z2⟩ := hSw; have k0 := (cell_of_row _ _ 13 _ _ _ z1).trans (show _ = some (Value.slice da D.length dc) from rfl); have k1 := (cell_of_row _ _ 0 _ _ _ z2).trans (show _ = some (Value.string ⟨a.toArray⟩) from rfl); have k2 := (cell_of_row _ _ 1 _ _ _ z2).trans (show _ = some (Value.string ⟨b.toArray⟩) from rfl); have k3 := (cell_of_row _ _ 2 _ _ _ z2).trans (show _ = some (Value.string ⟨c.toArray⟩) from rfl); clear z1 z2; (try simp only [List.getElem_toArray, List.getElem_cons_zero, List.getElem_cons_succ]); go_simp; (try with_reducible rfl)); (try simp only [List.getElem_toArray, List.getElem_cons_zero, List.getElem_cons_succ]); (try dsimp only [Act.put]); (try simp only [List.setIfInBounds_toArray, List.set_cons_zero, List.set_cons_succ]); refine headH_take (i := 11) (v := ?_) rfl (by kernel_rfl) (fun _ _ _ h => h) (Or.inl ⟨by rfl, ?_⟩) (by assumption) ?_; rotate_left; (· intro w' hSw; obtain ⟨z1, z2⟩ := hSw; have k0 := (cell_of_row _ _ 13 _ _ _ z1).trans (show _ = some (Value.slice da D.length dc) from rfl); have k1 := (cell_of_row _ _ 0 _ _ _ z2).trans (show _ = some (Value.string ⟨a.toArray⟩) from rfl); have k2 := (cell_of_row _ _ 1 _ _ _ z2).trans (show _ = some (Value.string ⟨b.toArray⟩) from rfl); have k3 := (cell_of_row _ _ 2 _ _ _ z2).trans (show _ = some (Value.string ⟨c.toArray⟩) from rfl); clear z1 z2; (try simp only [List.getElem_toArray, List.getElem_cons_zero, List.getElem_cons_succ]); go_simp; (try with_reducible rfl)); (try simp only [List.getElem_toArray, List.getElem_cons_zero, List.getElem_cons_succ]); (try dsimp only [Act.put]); (try simp only [List.setIfInBounds_toArray, List.set_cons_zero, List.set_cons_succ]); refine headH_take (i := 12) (v := ?_) rfl (by kernel_rfl) (fun _ _ _ h => h) (Or.inl ⟨by rfl, ?_⟩) (by assumption) ?_; rotate_left; (· intro w' hSw; obtain ⟨z1, z2⟩ := hSw; have k0 := (cell_of_row _ _ 13 _ _ _ z1).trans (show _ = some (Value.slice da D.length dc) from rfl); have k1 := (cell_of_row _ _ 0 _ _ _ z2).trans (show _ = some (Value.string ⟨a.toArray⟩) from rfl); have k2 := (cell_of_row _ _ 1 _ _ _ z2).trans (show _ = some (Value.string ⟨b.toArray⟩) from rfl); have k3 := (cell_of_row _ _ 2 _ _ _ z2).trans (show _ = some (Value.string ⟨c.toArray⟩) from rfl); clear z1 z2; (try simp only [List.getElem_toArray, List.getElem_cons_zero, List.getElem_cons_succ]); go_simp; (try with_reducible rfl)); (try simp only [List.getElem_toArray, List.getElem_cons_zero, List.getElem_cons_succ]); (try dsimp only [Act.put]); (try simp only [List.setIfInBounds_toArray, List.set_cons_zero, List.set_cons_succ]))
                      refine headH_all (rs := [5]) (by kernel_rfl) (by simp) (by kernel_rfl) ?_; intro i0 hi0; simp only [List.mem_cons, List.not_mem_nil, or_false] at hi0; subst hi0
                      (refine headH_op rfl (fun K hK => ?_); (try simp only [List.getElem_toArray, List.getElem_cons_zero, List.getElem_cons_succ]); go_simp)
                      (refine (HYa.out _).mono ?_; rintro e W1 ⟨rfl, hb⟩; have HBn := Lib.hid (HB3.out.quiet hb); have HDn := Lib.hid (own_below HD3.out hb); have HQn := Lib.hid ((hb.block _ (Array.getElem?_eq_some_iff.1 HQ3.out).1).trans HQ3.out); clear HB3 HD3 HQ3; have HB3 := HBn; have HD3 := HDn; have HQ3 := HQn; clear HBn HDn HQn hb; try dsimp only)
                      (refine hK.out _ _ ⟨HB3.out.p, HQ3.out⟩ (fun hS => ?_); clear hK K; (try simp only [List.getElem_toArray, List.getElem_cons_zero, List.getElem_cons_succ]); (try dsimp only [Act.put]); (try simp only [List.setIfInBounds_toArray, List.set_cons_zero, List.set_cons_succ]))
                      refine headH_all (rs := [9]) (by kernel_rfl) (by simp) (by kernel_rfl) ?_; intro i0 hi0; simp only [List.mem_cons, List.not_mem_nil, or_false] at hi0; subst hi0
                      (refine headH_op rfl (fun K hK => ?_); (try simp only [List.getElem_toArray, List.getElem_cons_zero, List.getElem_cons_succ]); go_simp)
                      (refine (HYb.out _).mono ?_; rintro e W2 ⟨rfl, hb⟩; have HBn := Lib.hid (HB3.out.quiet hb); have HDn := Lib.hid (own_below HD3.out hb); have HQn := Lib.hid ((hb.block _ (Array.getElem?_eq_some_iff.1 HQ3.out).1).trans HQ3.out); clear HB3 HD3 HQ3; have HB3 := HBn; have HD3 := HDn; have HQ3 := HQn; clear HBn HDn HQn hb; try dsimp only)
                      (refine hK.out _ _ ⟨HB3.out.p, HQ3.out⟩ (fun hS => ?_); clear hK K; (try simp only [List.getElem_toArray, List.getElem_cons_zero, List.getElem_cons_succ]); (try dsimp only [Act.put]); (try simp only [List.setIfInBounds_toArray, List.set_cons_zero, List.set_cons_succ]))
                      refine headH_all (rs := [13]) (by kernel_rfl) (by simp) (by kernel_rfl) ?_; intro i0 hi0; simp only [List.mem_cons, List.not_mem_nil, or_false] at hi0; subst hi0
                      (refine headH_op rfl (fun K hK => ?_); (try simp only [List.getElem_toArray, List.getElem_cons_zero, List.getElem_cons_succ]); go_simp)
                      (refine (HY.out _).mono ?_; rintro e W3 ⟨rfl, hb⟩; (try dsimp only); go_wp2; simp only [bodyPost]; exact ⟨trivial, HRN.out _ (HB3.out.quiet hb).below HN.out⟩)
                    | some ic =>
                    have HYc := Lib.hid (fun W => number_yes lc nc W)
                    have HI2 := Lib.hid (HST.out (ia, ib, ic) (by simp only [drR3, na, nb2, nc]))
                    clear na nb2 nc la lb lc HF HST
                    obtain ⟨j0, hj0, hz0, hz1, hz2⟩ := info_parts info_drift
                    have hb63 : D.length + 1 ≤ maxLen := by unfold maxLen; omega
                    have hb47 : (D.length + 1) * 24 ≤ 140737488355328 := by omega
                    have hone : ∀ u ∈ [Value.int .i64 ia, Value.int .i64 ib, Value.int .i64 ic], u.oneCell' = true := by
                      intro u hu
                      simp only [List.mem_cons, List.not_mem_nil, or_false] at hu
                      rcases hu with rfl | rfl | rfl <;> rfl
                    have HONE := Lib.hid hone
                    clear hone
                    (refine wp_region_any (by kernel_rfl) ?_; change wpAny _ _ _ _ _ _ _ (World.drew Wd); have HB3 := Lib.hid (HB2.out.quiet ((Below.refl _ _).drew)); have HD3 := Lib.hid (HD2.out.drew); have HQ3 := Lib.hid (show (World.drew Wd).heap[qb]? = _ from HQ2.out); clear HB2 HD2 HQ2; generalize World.drew Wd = W0 at *; refine any_of_tail 18 18 (fun w' => w'.heap[pb]? = some (.cells (pcs i0 i1 (deF l) (.slice da D.length dc) nilV) 42) ∧ w'.heap[qb]? = some (wsObj [a, b, c])) (by kernel_rfl) ⟨HB3.out.p, HQ3.out⟩ (fun hS => ?_); refine headH_take (i := 0) (v := ?_) rfl (by kernel_rfl) (fun _ _ _ h => h) (Or.inl ⟨by rfl, ?_⟩) (by assumption) ?_; rotate_left; (· intro w' hSw; obtain ⟨z1, z2⟩ := hSw; have k0 := (cell_of_row _ _ 13 _ _ _ z1).trans (show _ = some (Value.slice da D.length dc) from rfl); have k1 := (cell_of_row _ _ 0 _ _ _ z2).trans (show _ = some (Value.string ⟨a.toArray⟩) from rfl); have k2 := (cell_of_row _ _ 1 _ _ _ z2).trans (show _ = some (Value.string ⟨b.toArray⟩) from rfl); have k3 := (cell_of_row _ _ 2 _ _ _ z2).trans (show _ = some (Value.string ⟨c.toArray⟩) from rfl); clear z1 z2; (try simp only [List.getElem_toArray, List.getElem_cons_zero, List.getElem_cons_succ]); go_simp; (try with_reducible rfl)); (try simp only [List.getElem_toArray, List.getElem_cons_zero, List.getElem_cons_succ]); (try dsimp only [Act.put]); (try simp only [List.setIfInBounds_toArray, List.set_cons_zero, List.set_cons_succ]); refine headH_take (i := 1) (v := ?_) rfl (by kernel_rfl) (fun _ _ _ h => h) (Or.inl ⟨by rfl, ?_⟩) (by assumption) ?_; rotate_left; (· intro w' hSw; obtain ⟨z1, z2⟩ := hSw; have k0 := (cell_of_row _ _ 13 _ _ _ z1).trans (show _ = some (Value.slice da D.length dc) from rfl); have k1 := (cell_of_row _ _ 0 _ _ _ z2).trans (show _ = some (Value.string ⟨a.toArray⟩) from rfl); have k2 := (cell_of_row _ _ 1 _ _ _ z2).trans (show _ = some (Value.string ⟨b.toArray⟩) from rfl); have k3 := (cell_of_row _ _ 2 _ _ _ z2).trans (show _ = some (Value.string ⟨c.toArray⟩) from rfl); clear z1 z2; (try simp only [List.getElem_toArray, List.getElem_cons_zero, List.getElem_cons_succ]); go_simp; (try with_reducible rfl)); (try simp only [List.getElem_toArray, List.getElem_cons_zero, List.getElem_cons_succ]); (try dsimp only [Act.put]); (try simp only [List.setIfInBounds_toArray, List.set_cons_zero, List.set_cons_succ]); refine headH_take (i := 2) (v := ?_) rfl (by kernel_rfl) (fun _ _ _ h => h) (Or.inl ⟨by rfl, ?_⟩) (by assumption) ?_; rotate_left; (· intro w' hSw; obtain ⟨z1, z2⟩ := hSw; have k0 := (cell_of_row _ _ 13 _ _ _ z1).trans (show _ = some (Value.slice da D.length dc) from rfl); have k1 := (cell_of_row _ _ 0 _ _ _ z2).trans (show _ = some (Value.string ⟨a.toArray⟩) from rfl); have k2 := (cell_of_row _ _ 1 _ _ _ z2).trans (show _ = some (Value.string ⟨b.toArray⟩) from rfl); have k3 := (cell_of_row _ _ 2 _ _ _ z2).trans (show _ = some (Value.string ⟨c.toArray⟩) from rfl); clear z1 z2; (try simp only [List.getElem_toArray, List.getElem_cons_zero, List.getElem_cons_succ]); go_simp; (try with_reducible rfl)); (try simp only [List.getElem_toArray, List.getElem_cons_zero, List.getElem_cons_succ]); (try dsimp only [Act.put]); (try simp only [List.setIfInBounds_toArray, List.set_cons_zero, List.set_cons_succ]); refine headH_take (i := 3) (v := ?_) rfl (by kernel_rfl) (fun _ _ _ h => h) (Or.inl ⟨by rfl, ?_⟩) (by assumption) ?_; rotate_left; (· intro w' hSw; obtain ⟨z1, z2⟩ := hSw; have k0 := (cell_of_row _ _ 13 _ _ _ z1).trans (show _ = some (Value.slice da D.length dc) from rfl); have k1 := (cell_of_row _ _ 0 _ _ _ z2).trans (show _ = some (Value.string ⟨a.toArray⟩) from rfl); have k2 := (cell_of_row _ _ 1 _ _ _ z2).trans (show _ = some (Value.string ⟨b.toArray⟩) from rfl); have k3 := (cell_of_row _ _ 2 _ _ _ z2).trans (show _ = some (Value.string ⟨c.toArray⟩) from rfl); clear z1 z2; (try simp only [List.getElem_toArray, List.getElem_cons_zero, List.getElem_cons_succ]); go_simp; (try with_reducible rfl)); (try simp only [List.getElem_toArray, List.getElem_cons_zero, List.getElem_cons_succ]); (try dsimp only [Act.put]); (try simp only [List.setIfInBounds_toArray, List.set_cons_zero, List.set_cons_succ]); refine headH_take (i := 4) (v := ?_) rfl (by kernel_rfl) (fun _ _ _ h => h) (Or.inl ⟨by rfl, ?_⟩) (by assumption) ?_; rotate_left; (· intro w' hSw; obtain ⟨z1, z2⟩ := hSw; have k0 := (cell_of_row _ _ 13 _ _ _ z1).trans (show _ = some (Value.slice da D.length dc) from rfl); have k1 := (cell_of_row _ _ 0 _ _ _ z2).trans (show _ = some (Value.string ⟨a.toArray⟩) from rfl); have k2 := (cell_of_row _ _ 1 _ _ _ z2).trans (show _ = some (Value.string ⟨b.toArray⟩) from rfl); have k3 := (cell_of_row _ _ 2 _ _ _ z2).trans (show _ = some (Value.string ⟨c.toArray⟩) from rfl); clear z1 z2; (try simp only [List.getElem_toArray, List.getElem_cons_zero, List.getElem_cons_succ]); go_simp; (try with_reducible rfl)); (try simp only [List.getElem_toArray, List.getElem_cons_zero, List.getElem_cons_succ]); (try dsimp only [Act.put]); (try simp only [List.setIfInBounds_toArray, List.set_cons_zero, List.set_cons_succ]); refine headH_take (i := 6) (v := ?_) rfl (by kernel_rfl) (fun _ _ _ h => h) (Or.inl ⟨by rfl, ?_⟩) (by assumption) ?_; rotate_left; (· intro w' hSw; obtain ⟨z1, z2⟩ := hSw; have k0 := (cell_of_row _ _ 13 _ _ _ z1).trans (show _ = some (Value.slice da D.length dc) from rfl); have k1 := (cell_of_row _ _ 0 _ _ _ z2).trans (show _ = some (Value.string ⟨a.toArray⟩) from rfl); have k2 := (cell_of_row _ _ 1 _ _ _ z2).trans (show _ = some (Value.string ⟨b.toArray⟩) from rfl); have k3 := (cell_of_row _ _ 2 _ _ _ z2).trans (show _ = some (Value.string ⟨c.toArray⟩) from rfl); clear z1 z2; (try simp only [List.getElem_toArray, List.getElem_cons_zero, List.getElem_cons_succ]); go_simp; (try with_reducible rfl)); (try simp only [List.getElem_toArray, List.getElem_cons_zero, List.getElem_cons_succ]); (try dsimp only [Act.put]); (try simp only [List.setIfInBounds_toArray, List.set_cons_zero, List.set_cons_succ]); refine headH_take (i := 7) (v := ?_) rfl (by kernel_rfl) (fun _ _ _ h => h) (Or.inl ⟨by rfl, ?_⟩) (by assumption) ?_; rotate_left; (· intro w' hSw; obtain ⟨z1, z2⟩ := hSw; have k0 := (cell_of_row _ _ 13 _ _ _ z1).trans (show _ = some (Value.slice da D.length dc) from rfl); have k1 := (cell_of_row _ _ 0 _ _ _ z2).trans (show _ = some (Value.string ⟨a.toArray⟩) from rfl); have k2 := (cell_of_row _ _ 1 _ _ _ z2).trans (show _ = some (Value.string ⟨b.toArray⟩) from rfl); have k3 := (cell_of_row _ _ 2 _ _ _ z2).trans (show _ = some (Value.string ⟨c.toArray⟩) from rfl); clear z1 z2; (try simp only [List.getElem_toArray, List.getElem_cons_zero, List.getElem_cons_succ]); go_simp; (try with_reducible rfl)); (try simp only [List.getElem_toArray, List.getElem_cons_zero, List.getElem_cons_succ]); (try dsimp only [Act.put]); (try simp only [List.setIfInBounds_toArray, List.set_cons_zero, List.set_cons_succ]); refine headH_take (i := 8) (v := ?_) rfl (by kernel_rfl) (fun _ _ _ h => h) (Or.inl ⟨by rfl, ?_⟩) (by assumption) ?_; rotate_left; (· intro w' hSw; obtain ⟨z1, z2⟩ := hSw; have k0 := (cell_of_row _ _ 13 _ _ _ z1).trans (show _ = some (Value.slice da D.length dc) from rfl); have k1 := (cell_of_row _ _ 0 _ _ _ z2).trans (show _ = some (Value.string ⟨a.toArray⟩) from rfl); have k2 := (cell_of_row _ _ 1 _ _ _ z2).trans (show _ = some (Value.string ⟨b.toArray⟩) from rfl); have k3 := (cell_of_row _ _ 2 _ _ _ z2).trans (show _ = some (Value.string ⟨c.toArray⟩) from rfl); clear z1 z2; (try simp only [List.getElem_toArray, List.getElem_cons_zero, List.getElem_cons_succ]); go_simp; (try with_reducible rfl)); (try simp only [List.getElem_toArray, List.getElem_cons_zero, List.getElem_cons_succ]); (try dsimp only [Act.put]); (try simp only [List.setIfInBounds_toArray, List.set_cons_zero, List.set_cons_succ]); refine headH_take (i := 10) (v := ?_) rfl (by kernel_rfl) (fun _ _ _ h => h) (Or.inl ⟨by rfl, ?_⟩) (by assumption) ?_; rotate_left; (· intro w' hSw; obtain ⟨z1, z2⟩ := hSw; have k0 := (cell_of_row _ _ 13 _ _ _ z1).trans (show _ = some (Value.slice da D.length dc) from rfl); have k1 := (cell_of_row _ _ 0 _ _ _ z2).trans (show _ = some (Value.string ⟨a.toArray⟩) from rfl); have k2 := (cell_of_row _ _ 1 _ _ _ z2).trans (show _ = some (Value.string ⟨b.toArray⟩) from rfl); have k3 := (cell_of_row _ _ 2 _ _ _ z2).trans (show _ = some (Value.string ⟨c.toArray⟩) from rfl); clear z1 z2; (try simp only [List.getElem_toArray, List.getElem_cons_zero, List.getElem_cons_succ]); go_simp; (try with_reducible rfl)); (try simp only [List.getElem_toArray, List.getElem_cons_zero, List.getElem_cons_succ]); (try dsimp only [Act.put]); (try simp only [List.setIfInBounds_toArray, List.set_cons_zero, List.set_cons_succ]); refine headH_take (i := 11) (v := ?_) rfl (by kernel_rfl) (fun _ _ _ h => h) (Or.inl ⟨by rfl, ?_⟩) (by assumption) ?_; rotate_left; (· intro w' hSw; obtain ⟨z1, z2⟩ := hSw; have k0 := (cell_of_row _ _ 13 _ _ _ z1).trans (show _ = some (Value.slice da D.length dc) from rfl); have k1 := (cell_of_row _ _ 0 _ _ _ z2).trans (show _ = some (Value.string ⟨a.toArray⟩) from rfl); have k2 := (cell_of_row _ _ 1 _ _ _ z2).trans (show _ = some (Value.string ⟨b.toArray⟩) from rfl); have k3 := (cell_of_row _ _ 2 _ _ _ z2).trans (show _ = some (Value.string ⟨c.toArray⟩) from rfl); clear z1 z2; (try simp only [List.getElem_toArray, List.getElem_cons_zero, List.getElem_cons_succ]); go_simp; (try with_reducible rfl)); (try simp only [List.getElem_toArray, List.getElem_cons_zero, List.getElem_cons_succ]); (try dsimp only [Act.put]); (try simp only [List.setIfInBounds_toArray, List.set_cons_zero, List.set_cons_succ]); refine headH_take (i := 12) (v := ?_) rfl (by kernel_rfl) (fun _ _ _ h => h) (Or.inl ⟨by rfl, ?_⟩) (by assumption) ?_; rotate_left; (· intro w' hSw; obtain ⟨z1, z2⟩ := hSw; have k0 := (cell_of_row _ _ 13 _ _ _ z1).trans (show _ = some (Value.slice da D.length dc) from rfl); have k1 := (cell_of_row _ _ 0 _ _ _ z2).trans (show _ = some (Value.string ⟨a.toArray⟩) from rfl); have k2 := (cell_of_row _ _ 1 _ _ _ z2).trans (show _ = some (Value.string ⟨b.toArray⟩) from rfl); have k3 := (cell_of_row _ _ 2 _ _ _ z2).trans (show _ = some (Value.string ⟨c.toArray⟩) from rfl); clear z1 z2; (try simp only [List.getElem_toArray, List.getElem_cons_zero, List.getElem_cons_succ]); go_simp; (try with_reducible rfl)); (try simp only [List.getElem_toArray, List.getElem_cons_zero, List.getElem_cons_succ]); (try dsimp only [Act.put]); (try simp only [List.setIfInBounds_toArray, List.set_cons_zero, List.set_cons_succ]))
                    refine headH_all (rs := [5]) (by kernel_rfl) (by simp) (by kernel_rfl) ?_; intro i0 hi0; simp only [List.mem_cons, List.not_mem_nil, or_false] at hi0; subst hi0
                    (refine headH_op rfl (fun K hK => ?_); (try simp only [List.getElem_toArray, List.getElem_cons_zero, List.getElem_cons_succ]); go_simp)
                    (refine (HYa.out _).mono ?_; rintro e W1 ⟨rfl, hb⟩; have HBn := Lib.hid (HB3.out.quiet hb); have HDn := Lib.hid (own_below HD3.out hb); have HQn := Lib.hid ((hb.block _ (Array.getElem?_eq_some_iff.1 HQ3.out).1).trans HQ3.out); clear HB3 HD3 HQ3; have HB3 := HBn; have HD3 := HDn; have HQ3 := HQn; clear HBn HDn HQn hb; try dsimp only)
                    (refine hK.out _ _ ⟨HB3.out.p, HQ3.out⟩ (fun hS => ?_); clear hK K; (try simp only [List.getElem_toArray, List.getElem_cons_zero, List.getElem_cons_succ]); (try dsimp only [Act.put]); (try simp only [List.setIfInBounds_toArray, List.set_cons_zero, List.set_cons_succ]))
                    refine headH_all (rs := [9]) (by kernel_rfl) (by simp) (by kernel_rfl) ?_; intro i0 hi0; simp only [List.mem_cons, List.not_mem_nil, or_false] at hi0; subst hi0
                    (refine headH_op rfl (fun K hK => ?_); (try simp only [List.getElem_toArray, List.getElem_cons_zero, List.getElem_cons_succ]); go_simp)
                    (refine (HYb.out _).mono ?_; rintro e W2 ⟨rfl, hb⟩; have HBn := Lib.hid (HB3.out.quiet hb); have HDn := Lib.hid (own_below HD3.out hb); have HQn := Lib.hid ((hb.block _ (Array.getElem?_eq_some_iff.1 HQ3.out).1).trans HQ3.out); clear HB3 HD3 HQ3; have HB3 := HBn; have HD3 := HDn; have HQ3 := HQn; clear HBn HDn HQn hb; try dsimp only)
                    (refine hK.out _ _ ⟨HB3.out.p, HQ3.out⟩ (fun hS => ?_); clear hK K; (try simp only [List.getElem_toArray, List.getElem_cons_zero, List.getElem_cons_succ]); (try dsimp only [Act.put]); (try simp only [List.setIfInBounds_toArray, List.set_cons_zero, List.set_cons_succ]))
                    refine headH_all (rs := [13]) (by kernel_rfl) (by simp) (by kernel_rfl) ?_; intro i0 hi0; simp only [List.mem_cons, List.not_mem_nil, or_false] at hi0; subst hi0
                    (refine headH_op rfl (fun K hK => ?_); (try simp only [List.getElem_toArray, List.getElem_cons_zero, List.getElem_cons_succ]); go_simp)
                    (refine (HYc.out _).mono ?_; rintro e W3 ⟨rfl, hb⟩; have HBn := Lib.hid (HB3.out.quiet hb); have HDn := Lib.hid (own_below HD3.out hb); have HQn := Lib.hid ((hb.block _ (Array.getElem?_eq_some_iff.1 HQ3.out).1).trans HQ3.out); clear HB3 HD3 HQ3; have HB3 := HBn; have HD3 := HDn; have HQ3 := HQn; clear HBn HDn HQn hb; try dsimp only)
                    (refine hK.out _ _ ⟨HB3.out.p, HQ3.out⟩ (fun hS => ?_); clear hK K; (try simp only [List.getElem_toArray, List.getElem_cons_zero, List.getElem_cons_succ]); (try dsimp only [Act.put]); (try simp only [List.setIfInBounds_toArray, List.set_cons_zero, List.set_cons_succ]))
                    refine headH_take (i := 14) (v := ?_) rfl (by kernel_rfl) (fun _ _ _ h => h) (Or.inl ⟨by rfl, ?_⟩) (by assumption) ?_; rotate_left; (· intro w' hSw; clear hSw; (try simp only [List.getElem_toArray, List.getElem_cons_zero, List.getElem_cons_succ]); go_simp; (try with_reducible rfl)); (try simp only [List.getElem_toArray, List.getElem_cons_zero, List.getElem_cons_succ]); (try dsimp only [Act.put]); (try simp only [List.setIfInBounds_toArray, List.set_cons_zero, List.set_cons_succ])
                    refine headH_take (i := 15) (v := ?_) rfl (by kernel_rfl) (fun _ _ _ h => h) (Or.inl ⟨by rfl, ?_⟩) (by assumption) ?_; rotate_left; (· intro w' hSw; clear hSw; (try simp only [List.getElem_toArray, List.getElem_cons_zero, List.getElem_cons_succ]); go_simp; (try with_reducible rfl)); (try simp only [List.getElem_toArray, List.getElem_cons_zero, List.getElem_cons_succ]); (try dsimp only [Act.put]); (try simp only [List.setIfInBounds_toArray, List.set_cons_zero, List.set_cons_succ])
                    refine headH_all (rs := [16]) (by kernel_rfl) (by simp) (by kernel_rfl) ?_; intro i0 hi0; simp only [List.mem_cons, List.not_mem_nil, or_false] at hi0; subst hi0
                    (refine headH_op rfl (fun K hK => ?_); (try simp only [List.getElem_toArray, List.getElem_cons_zero, List.getElem_cons_succ]); go_simp)
                    have HNW := Lib.hid (al_new W3 (.cells #[.int .i64 ia, .int .i64 ib, .int .i64 ic] 71) _ rfl)
                    have HBn := Lib.hid (HB3.out.quiet (rd_below W3 (.cells #[.int .i64 ia, .int .i64 ib, .int .i64 ic] 71)))
                    have HDn := Lib.hid (own_below HD3.out (rd_below W3 (.cells #[.int .i64 ia, .int .i64 ib, .int .i64 ic] 71)))
                    have HQn := Lib.hid (al_old (o := (.cells #[.int .i64 ia, .int .i64 ib, .int .i64 ic] 71)) HQ3.out)
                    clear HB3 HD3 HQ3
                    generalize World.alloc W3 _ = W4 at *
                    generalize W3.heap.size = nwb at *
                    (refine hK.out _ _ ⟨HBn.out.p, HQn.out⟩ (fun hS => ?_); clear hK K; (try simp only [List.getElem_toArray, List.getElem_cons_zero, List.getElem_cons_succ]); (try dsimp only [Act.put]); (try simp only [List.setIfInBounds_toArray, List.set_cons_zero, List.set_cons_succ]))
                    refine headH_all (rs := [17]) (by kernel_rfl) (by simp) (by kernel_rfl) ?_; intro i0 hi0; simp only [List.mem_cons, List.not_mem_nil, or_false] at hi0; subst hi0
                    refine headH_op rfl (fun K hK => ?_)
                    refine step_append_lies _ rfl _ _ 39 rfl w.heap.size 71 j0 _ 3 24 Tryz.underlying39 hj0 hz0 hz1 hz2 rfl (by decide) (.slice da D.length dc) D.length (drC D) rfl HDn.out ⟨nwb, 0, none⟩ 1 1 [.int .i64 ia, .int .i64 ib, .int .i64 ic] rfl rfl (World.news_of_block HNW.out) HONE.out (by decide) hb63 hb47 HBn.out.below.size _ rfl ?_
                    intro g7 p7 W5 hown hgrow hat hlt
                    have HB5 := Lib.hid (HBn.out.grown HDn.out hgrow (by decide))
                    have HQ5 := Lib.hid ((hgrow.block _ (Array.getElem?_eq_some_iff.1 HQn.out).1 (Ne.symm (row_off HDn.out HQn.out (by decide)))).trans HQn.out)
                    refine hK.out _ _ ⟨HB5.out.p, HQ5.out⟩ (fun hS => ?_)
                    clear hK K hgrow hat hlt hS
                    (try simp only [List.getElem_toArray, List.getElem_cons_zero, List.getElem_cons_succ]); (try dsimp only [Act.put]); (try simp only [List.setIfInBounds_toArray, List.set_cons_zero, List.set_cons_succ])
                    change tailL _ _ _ _ _ _ _ _
                    refine ⟨by kernel_rfl, ?_⟩
                    simp only [List.drop_succ_cons, List.drop_zero]
                    have y0 : W5.cell? ⟨pb, 13, none⟩ = some (.slice da D.length dc) := cell_of_row _ _ 13 _ _ _ HB5.out.p
                    have y1 : W5.frozen? ⟨pb, 13, none⟩ = false := Lib.frozen_of_heap HB5.out.p 13
                    have HB6 := Lib.hid (HB5.out.put CC.out 13 (.slice (some ⟨g7, 0, none⟩) (D.length + 1) p7) (cells' := pcs i0 i1 (deF l) (.slice (some ⟨g7, 0, none⟩) (D.length + 1) p7) nilV) rfl)
                    have HD6 := Lib.hid (show (W5.setCell ⟨pb, 13, none⟩ (.slice (some ⟨g7, 0, none⟩) (D.length + 1) p7)).ownsRow w.heap.size 71 3 (.slice (some ⟨g7, 0, none⟩) (D.length + 1) p7) (D ++ [(ia, ib, ic)]).length (drC (D ++ [(ia, ib, ic)])) from by
                      rw [List.length_append, List.length_singleton, drC_snoc]
                      exact row_pop hown HB5.out.p (by decide) 13 _)
                    clear hown HBn HDn HQn HB5 HQ5 HNW
                    go_wp2_with fail
                    go_roundw
                    case rel => exact ⟨j + 1, D ++ [(ia, ib, ic)], _, by simp, HI2, by rw [HK1.out]; exact HB6, HD6⟩
                    case measure => rw [wLen_is HB6.out.wd, HMS.out]; exact HKM.out
      case rest =>
        obtain ⟨k, D, dv, HT, HB, HD⟩ := hcut
        have HLD := Lib.hid (show lineR ws = (deR (ws.drop k)).map fun e => (⟨(i0 : Int), (i1 : Int), l, D, e⟩ : PP) from by
          rw [HLS.out, HT.out, Option.map_map]
          rfl)
        have hkle := HB.out.wd.le
        have HM := Lib.hid (more_words HB.out.wd (by omega) deadT)
        clear HLS HT HB1
        go_upto_if 95 with (go_at_call 75; refine HM.out.mono ?_; rintro e W14 ⟨rfl, hp, hw⟩)
        have HD1 := Lib.hid (row_Pop HD.out HB.out.wd (by decide) hp)
        have HB1 := Lib.hid (HB.out.pop CC.out hp hw)
        clear hp hw HM HB HD
        go_cut [12, 95] from 96 to 109 (fun s12 s95 wx => ∃ (k' : Nat) (E : List Int) (ev : Value), Hid (deR (ws.drop k) = if k' < ws.length then none else some E) ∧ Hid (PB w w.heap.size xb nb pb sb ws k' (pcs i0 i1 (deF l) dv ev) wx) ∧ Hid (wx.ownsRow w.heap.size 71 3 dv D.length (drC D)) ∧ Hid (wx.ownsRow w.heap.size 3 1 ev E.length (deC E)))
        case first =>
          cases hb : moreB ws k deadT with
          | false =>
            have HT := Lib.hid (de_no hb)
            rw [hb, if_neg (by decide)] at HB1
            go_wp2
            go_meet
            exact ⟨k, [], nilV, HT, HB1, HD1, Lib.hid (World.ownsRow_nil _ _ _ _)⟩
          | true =>
            have HMT := Lib.hid hb
            rw [hb, if_pos rfl] at HB1
            go_upto_region 23 with (fail)
            go_loopw [12] (fun s12 wr => ∃ (j : Nat) (E : List Int) (ev : Value), s12 = .bool (decide (j = 0)) ∧ Hid (DeInv ws (k + 1) j E) ∧ Hid (PB w w.heap.size xb nb pb sb ws (k + 1 + j) (pcs i0 i1 (deF l) dv ev) wr) ∧ Hid (wr.ownsRow w.heap.size 71 3 dv D.length (drC D)) ∧ Hid (wr.ownsRow w.heap.size 3 1 ev E.length (deC E))) (fun s12 wr => wLen xb wr)
            case atStart => exact ⟨0, [], nilV, rfl, Lib.hid (DeInv.start _ _), HB1, HD1, Lib.hid (World.ownsRow_nil _ _ _ _)⟩
            case round =>
              clear HB1 HD1
              obtain ⟨j, E, ev, rfl, HI, HB, HD, HE⟩ := hrel
              have HMS := Lib.hid (wLen_is HB.out.wd)
              have hk14 := HB.out.wd.le
              generalize hk : k + 1 + j = q at *
              go_upto_region 23 with (fail)
              go_cut [12, 101] from 96 to 101 (fun s12 s101 wx => s101 = .bool (decide (j = 0 ∨ q < ws.length)) ∧ wx = wr)
              case first =>
                obtain ⟨xa, hxa, hak⟩ := HB.out.wd.box
                have x0 := cell_of_row _ _ 0 _ _ _ hxa
                clear hxa hak
                by_cases hj : j = 0
                · have hd : decide (j = 0) = true := decide_eq_true hj
                  have HD2 := Lib.hid (show decide (j = 0 ∨ q < ws.length) = true from decide_eq_true (.inl hj))
                  rw [hd]
                  clear hd x0 hj hk
                  go_wp2
                  go_meet
                  exact ⟨by rw [HD2.out], rfl⟩
                · have hd : decide (j = 0) = false := decide_eq_false hj
                  by_cases hkl : q < ws.length
                  · obtain ⟨m, hm⟩ : ∃ m, ws.length - q = m + 1 := ⟨ws.length - q - 1, by omega⟩
                    rw [hm] at x0
                    have h1 : (0 : Int) < ((m + 1 : Nat) : Int) := by omega
                    have HD2 := Lib.hid (show decide (j = 0 ∨ q < ws.length) = true from decide_eq_true (.inr hkl))
                    rw [hd]
                    clear hd hj hk hm hkl
                    go_wp2
                    go_meet
                    exact ⟨by rw [HD2.out], rfl⟩
                  · have HD2 := Lib.hid (show decide (j = 0 ∨ q < ws.length) = false from decide_eq_false (fun h => h.elim hj hkl))
                    rw [hd]
                    have hm : ws.length - q = 0 := by omega
                    rw [hm] at x0
                    clear hd hj hk hkl
                    go_wp2
                    go_meet
                    exact ⟨by rw [HD2.out], rfl⟩
              case rest =>
                obtain ⟨rfl, rfl⟩ := hcut
                by_cases hgo : j = 0 ∨ q < ws.length
                case neg =>
                  have HT := Lib.hid (show deR (ws.drop k) = if q < ws.length then none else some E from by
                    rw [if_neg (fun h => hgo (.inr h))]
                    subst hk
                    exact HI.out.fin HMT.out (fun h => hgo (.inl h)) (fun h => hgo (.inr h)))
                  rw [decide_eq_false hgo]
                  clear hgo
                  go_wp2
                  go_meet
                  exact ⟨q, E, ev, HT, HB, HD, HE⟩
                case pos =>
                  rw [decide_eq_true hgo]
                  have HWY := Lib.hid (HWL.out q)
                  by_cases hkl : q < ws.length
                  case neg =>
                    have hj : j = 0 := by rcases hgo with h | h; exact h; exact absurd h hkl
                    have HN := Lib.hid (show lineR ws = none from by rw [HLD.out, DeInv.none HMT.out (by omega)]; rfl)
                    have HX := Lib.hid (fun (W : World) (h : WordsAt xb sb ws q W) => next_no h (by omega) hkl)
                    clear hkl hj hgo hk
                    obtain ⟨ea, ec, rfl⟩ := own_len HE.out
                    go_upto_region 25 with (fail)
                    (refine wp_region_any (by kernel_rfl) ?_; change wpAny _ _ _ _ _ _ _ (World.drew wc); have HB3 := Lib.hid (HB.out.quiet ((Below.refl _ _).drew)); have HD3 := Lib.hid (HD.out.drew); have HE3 := Lib.hid (HE.out.drew); clear HB HD HE; generalize World.drew wc = W0 at *; refine any_of_tail 7 7 (fun w' => w'.heap[pb]? = some (.cells (pcs i0 i1 (deF l) dv (.slice ea E.length ec)) 42) ∧ w'.heap[nb]? = some (nxObj xb)) (by kernel_rfl) ⟨HB3.out.p, HB3.out.nx⟩ (fun hS => ?_); refine headH_take (i := 0) (v := ?_) rfl (by kernel_rfl) (fun _ _ _ h => h) (Or.inl ⟨by rfl, ?_⟩) (by assumption) ?_; rotate_left; (· intro w' hSw; obtain ⟨z1, z2⟩ := hSw; have k0 := (cell_of_row _ _ 14 _ _ _ z1).trans (show _ = some (Value.slice ea E.length ec) from rfl); have k1 := (cell_of_row _ _ 0 _ _ _ z2).trans (show _ = some (Value.func (Fn.func 74) #[] #[.pointer (some ⟨xb, 0, none⟩)]) from rfl); clear z1 z2; (try simp only [List.getElem_toArray, List.getElem_cons_zero, List.getElem_cons_succ]); go_simp; (try with_reducible rfl)); (try simp only [List.getElem_toArray, List.getElem_cons_zero, List.getElem_cons_succ]); (try dsimp only [Act.put]); (try simp only [List.setIfInBounds_toArray, List.set_cons_zero, List.set_cons_succ]); refine headH_take (i := 1) (v := ?_) rfl (by kernel_rfl) (fun _ _ _ h => h) (Or.inl ⟨by rfl, ?_⟩) (by assumption) ?_; rotate_left; (· intro w' hSw; obtain ⟨z1, z2⟩ := hSw; have k0 := (cell_of_row _ _ 14 _ _ _ z1).trans (show _ = some (Value.slice ea E.length ec) from rfl); have k1 := (cell_of_row _ _ 0 _ _ _ z2).trans (show _ = some (Value.func (Fn.func 74) #[] #[.pointer (some ⟨xb, 0, none⟩)]) from rfl); clear z1 z2; (try simp only [List.getElem_toArray, List.getElem_cons_zero, List.getElem_cons_succ]); go_simp; (try with_reducible rfl)); (try simp only [List.getElem_toArray, List.getElem_cons_zero, List.getElem_cons_succ]); (try dsimp only [Act.put]); (try simp only [List.setIfInBounds_toArray, List.set_cons_zero, List.set_cons_succ]); refine headH_take (i := 2) (v := ?_) rfl (by kernel_rfl) (fun _ _ _ h => h) (Or.inl ⟨by rfl, ?_⟩) (by assumption) ?_; rotate_left; (· intro w' hSw; obtain ⟨z1, z2⟩ := hSw; have k0 := (cell_of_row _ _ 14 _ _ _ z1).trans (show _ = some (Value.slice ea E.length ec) from rfl); have k1 := (cell_of_row _ _ 0 _ _ _ z2).trans (show _ = some (Value.func (Fn.func 74) #[] #[.pointer (some ⟨xb, 0, none⟩)]) from rfl); clear z1 z2; (try simp only [List.getElem_toArray, List.getElem_cons_zero, List.getElem_cons_succ]); go_simp; (try with_reducible rfl)); (try simp only [List.getElem_toArray, List.getElem_cons_zero, List.getElem_cons_succ]); (try dsimp only [Act.put]); (try simp only [List.setIfInBounds_toArray, List.set_cons_zero, List.set_cons_succ]))
                    refine headH_all (rs := [3]) (by kernel_rfl) (by simp) (by kernel_rfl) ?_; intro i0 hi0; simp only [List.mem_cons, List.not_mem_nil, or_false] at hi0; subst hi0
                    (refine headH_op rfl (fun K hK => ?_); (try simp only [List.getElem_toArray, List.getElem_cons_zero, List.getElem_cons_succ]); go_simp)
                    refine (HX.out _ HB3.out.wd).mono ?_
                    rintro e W1 ⟨rfl, hp⟩
                    dsimp only
                    go_wp2
                    simp only [bodyPost]
                    exact ⟨trivial, HRN.out _ (HB3.out.below.trans (hp.below CC.out.x)) HN.out⟩
                  case pos =>
                    obtain ⟨ea, ec, rfl⟩ := own_len HE.out
                    have HX := Lib.hid (fun (W : World) (h : WordsAt xb sb ws q W) => next_yes h (by omega) hkl)
                    have HF := Lib.hid (fun (h : nmR (ws.getD q []) = none) => show lineR ws = none from by
                      subst hk
                      rw [HLD.out, HI.out.fail HMT.out hkl h]
                      rfl)
                    have HST := Lib.hid (fun d (h : nmR (ws.getD q []) = some d) => show DeInv ws (k + 1) (j + 1) (E ++ [d]) from by
                      subst hk
                      exact HI.out.step hkl h)
                    have hEl : E.length ≤ 60001 := by have := HI.out.len; omega
                    have HK1 := Lib.hid (show k + 1 + (j + 1) = q + 1 by omega)
                    have HKM := Lib.hid (show ws.length - (q + 1) < ws.length - q by omega)
                    clear hgo hkl hk HI
                    generalize ws.getD q [] = y at *
                    cases hn : nmR y with
                    | none =>
                      have HN := Lib.hid (HF.out hn)
                      have HY := Lib.hid (fun W => number_no HWY.out hn W)
                      clear hn HWY HF HST
                      go_upto_region 25 with (fail)
                      (refine wp_region_any (by kernel_rfl) ?_; change wpAny _ _ _ _ _ _ _ (World.drew wc); have HB3 := Lib.hid (HB.out.quiet ((Below.refl _ _).drew)); have HD3 := Lib.hid (HD.out.drew); have HE3 := Lib.hid (HE.out.drew); clear HB HD HE; generalize World.drew wc = W0 at *; refine any_of_tail 7 7 (fun w' => w'.heap[pb]? = some (.cells (pcs i0 i1 (deF l) dv (.slice ea E.length ec)) 42) ∧ w'.heap[nb]? = some (nxObj xb)) (by kernel_rfl) ⟨HB3.out.p, HB3.out.nx⟩ (fun hS => ?_); refine headH_take (i := 0) (v := ?_) rfl (by kernel_rfl) (fun _ _ _ h => h) (Or.inl ⟨by rfl, ?_⟩) (by assumption) ?_; rotate_left; (· intro w' hSw; obtain ⟨z1, z2⟩ := hSw; have k0 := (cell_of_row _ _ 14 _ _ _ z1).trans (show _ = some (Value.slice ea E.length ec) from rfl); have k1 := (cell_of_row _ _ 0 _ _ _ z2).trans (show _ = some (Value.func (Fn.func 74) #[] #[.pointer (some ⟨xb, 0, none⟩)]) from rfl); clear z1 z2; (try simp only [List.getElem_toArray, List.getElem_cons_zero, List.getElem_cons_succ]); go_simp; (try with_reducible rfl)); (try simp only [List.getElem_toArray, List.getElem_cons_zero, List.getElem_cons_succ]); (try dsimp only [Act.put]); (try simp only [List.setIfInBounds_toArray, List.set_cons_zero, List.set_cons_succ]); refine headH_take (i := 1) (v := ?_) rfl (by kernel_rfl) (fun _ _ _ h => h) (Or.inl ⟨by rfl, ?_⟩) (by assumption) ?_; rotate_left; (· intro w' hSw; obtain ⟨z1, z2⟩ := hSw; have k0 := (cell_of_row _ _ 14 _ _ _ z1).trans (show _ = some (Value.slice ea E.length ec) from rfl); have k1 := (cell_of_row _ _ 0 _ _ _ z2).trans (show _ = some (Value.func (Fn.func 74) #[] #[.pointer (some ⟨xb, 0, none⟩)]) from rfl); clear z1 z2; (try simp only [List.getElem_toArray, List.getElem_cons_zero, List.getElem_cons_succ]); go_simp; (try with_reducible rfl)); (try simp only [List.getElem_toArray, List.getElem_cons_zero, List.getElem_cons_succ]); (try dsimp only [Act.put]); (try simp only [List.setIfInBounds_toArray, List.set_cons_zero, List.set_cons_succ]); refine headH_take (i := 2) (v := ?_) rfl (by kernel_rfl) (fun _ _ _ h => h) (Or.inl ⟨by rfl, ?_⟩) (by assumption) ?_; rotate_left; (· intro w' hSw; obtain ⟨z1, z2⟩ := hSw; have k0 := (cell_of_row _ _ 14 _ _ _ z1).trans (show _ = some (Value.slice ea E.length ec) from rfl); have k1 := (cell_of_row _ _ 0 _ _ _ z2).trans (show _ = some (Value.func (Fn.func 74) #[] #[.pointer (some ⟨xb, 0, none⟩)]) from rfl); clear z1 z2; (try simp only [List.getElem_toArray, List.getElem_cons_zero, List.getElem_cons_succ]); go_simp; (try with_reducible rfl)); (try simp only [List.getElem_toArray, List.getElem_cons_zero, List.getElem_cons_succ]); (try dsimp only [Act.put]); (try simp only [List.setIfInBounds_toArray, List.set_cons_zero, List.set_cons_succ]))
                      refine headH_all (rs := [3]) (by kernel_rfl) (by simp) (by kernel_rfl) ?_; intro i0 hi0; simp only [List.mem_cons, List.not_mem_nil, or_false] at hi0; subst hi0
                      (refine headH_op rfl (fun K hK => ?_); (try simp only [List.getElem_toArray, List.getElem_cons_zero, List.getElem_cons_succ]); go_simp)
                      (refine (HX.out _ HB3.out.wd).mono ?_; rintro e W1 ⟨rfl, hp, hw⟩; have HBn := Lib.hid (HB3.out.pop CC.out hp hw); have HDn := Lib.hid (row_Pop HD3.out HB3.out.wd (by decide) hp); have HEn := Lib.hid (row_Pop HE3.out HB3.out.wd (by decide) hp); clear HB3 HD3 HE3 hp hw; have HB3 := HBn; have HD3 := HDn; have HE3 := HEn; clear HBn HDn HEn; try dsimp only)
                      (refine hK.out _ _ ⟨HB3.out.p, HB3.out.nx⟩ (fun hS => ?_); clear hK K; (try simp only [List.getElem_toArray, List.getElem_cons_zero, List.getElem_cons_succ]); (try dsimp only [Act.put]); (try simp only [List.setIfInBounds_toArray, List.set_cons_zero, List.set_cons_succ]))
                      refine headH_all (rs := [4]) (by kernel_rfl) (by simp) (by kernel_rfl) ?_; intro i0 hi0; simp only [List.mem_cons, List.not_mem_nil, or_false] at hi0; subst hi0
                      (refine headH_op rfl (fun K hK => ?_); (try simp only [List.getElem_toArray, List.getElem_cons_zero, List.getElem_cons_succ]); go_simp)
                      refine (HY.out _).mono ?_
                      rintro e W2 ⟨rfl, hb⟩
                      dsimp only
                      go_wp2
                      simp only [bodyPost]
                      exact ⟨trivial, HRN.out _ (HB3.out.quiet hb).below HN.out⟩
                    | some n =>
                      have HY := Lib.hid (fun W => number_yes HWY.out hn W)
                      have HI2 := Lib.hid (HST.out n hn)
                      clear hn HWY HF HST
                      obtain ⟨j0, hj0, hz0, hz1, hz2⟩ := info_parts info_int
                      have hb63 : E.length + 1 ≤ maxLen := by unfold maxLen; omega
                      have hb47 : (E.length + 1) * 8 ≤ 140737488355328 := by omega
                      have hone : ∀ u ∈ [Value.int .i64 n], u.oneCell' = true := by
                        intro u hu
                        simp only [List.mem_cons, List.not_mem_nil, or_false] at hu
                        subst hu
                        rfl
                      have HONE := Lib.hid hone
                      clear hone
                      go_upto_region 25 with (fail)
                      (refine wp_region_any (by kernel_rfl) ?_; change wpAny _ _ _ _ _ _ _ (World.drew wc); have HB3 := Lib.hid (HB.out.quiet ((Below.refl _ _).drew)); have HD3 := Lib.hid (HD.out.drew); have HE3 := Lib.hid (HE.out.drew); clear HB HD HE; generalize World.drew wc = W0 at *; refine any_of_tail 7 7 (fun w' => w'.heap[pb]? = some (.cells (pcs i0 i1 (deF l) dv (.slice ea E.length ec)) 42) ∧ w'.heap[nb]? = some (nxObj xb)) (by kernel_rfl) ⟨HB3.out.p, HB3.out.nx⟩ (fun hS => ?_); refine headH_take (i := 0) (v := ?_) rfl (by kernel_rfl) (fun _ _ _ h => h) (Or.inl ⟨by rfl, ?_⟩) (by assumption) ?_; rotate_left; (· intro w' hSw; obtain ⟨z1, z2⟩ := hSw; have k0 := (cell_of_row _ _ 14 _ _ _ z1).trans (show _ = some (Value.slice ea E.length ec) from rfl); have k1 := (cell_of_row _ _ 0 _ _ _ z2).trans (show _ = some (Value.func (Fn.func 74) #[] #[.pointer (some ⟨xb, 0, none⟩)]) from rfl); clear z1 z2; (try simp only [List.getElem_toArray, List.getElem_cons_zero, List.getElem_cons_succ]); go_simp; (try with_reducible rfl)); (try simp only [List.getElem_toArray, List.getElem_cons_zero, List.getElem_cons_succ]); (try dsimp only [Act.put]); (try simp only [List.setIfInBounds_toArray, List.set_cons_zero, List.set_cons_succ]); refine headH_take (i := 1) (v := ?_) rfl (by kernel_rfl) (fun _ _ _ h => h) (Or.inl ⟨by rfl, ?_⟩) (by assumption) ?_; rotate_left; (· intro w' hSw; obtain ⟨z1, z2⟩ := hSw; have k0 := (cell_of_row _ _ 14 _ _ _ z1).trans (show _ = some (Value.slice ea E.length ec) from rfl); have k1 := (cell_of_row _ _ 0 _ _ _ z2).trans (show _ = some (Value.func (Fn.func 74) #[] #[.pointer (some ⟨xb, 0, none⟩)]) from rfl); clear z1 z2; (try simp only [List.getElem_toArray, List.getElem_cons_zero, List.getElem_cons_succ]); go_simp; (try with_reducible rfl)); (try simp only [List.getElem_toArray, List.getElem_cons_zero, List.getElem_cons_succ]); (try dsimp only [Act.put]); (try simp only [List.setIfInBounds_toArray, List.set_cons_zero, List.set_cons_succ]); refine headH_take (i := 2) (v := ?_) rfl (by kernel_rfl) (fun _ _ _ h => h) (Or.inl ⟨by rfl, ?_⟩) (by assumption) ?_; rotate_left; (· intro w' hSw; obtain ⟨z1, z2⟩ := hSw; have k0 := (cell_of_row _ _ 14 _ _ _ z1).trans (show _ = some (Value.slice ea E.length ec) from rfl); have k1 := (cell_of_row _ _ 0 _ _ _ z2).trans (show _ = some (Value.func (Fn.func 74) #[] #[.pointer (some ⟨xb, 0, none⟩)]) from rfl); clear z1 z2; (try simp only [List.getElem_toArray, List.getElem_cons_zero, List.getElem_cons_succ]); go_simp; (try with_reducible rfl)); (try simp only [List.getElem_toArray, List.getElem_cons_zero, List.getElem_cons_succ]); (try dsimp only [Act.put]); (try simp only [List.setIfInBounds_toArray, List.set_cons_zero, List.set_cons_succ]))
                      refine headH_all (rs := [3]) (by kernel_rfl) (by simp) (by kernel_rfl) ?_; intro i0 hi0; simp only [List.mem_cons, List.not_mem_nil, or_false] at hi0; subst hi0
                      (refine headH_op rfl (fun K hK => ?_); (try simp only [List.getElem_toArray, List.getElem_cons_zero, List.getElem_cons_succ]); go_simp)
                      (refine (HX.out _ HB3.out.wd).mono ?_; rintro e W1 ⟨rfl, hp, hw⟩; have HBn := Lib.hid (HB3.out.pop CC.out hp hw); have HDn := Lib.hid (row_Pop HD3.out HB3.out.wd (by decide) hp); have HEn := Lib.hid (row_Pop HE3.out HB3.out.wd (by decide) hp); clear HB3 HD3 HE3 hp hw; have HB3 := HBn; have HD3 := HDn; have HE3 := HEn; clear HBn HDn HEn; try dsimp only)
                      (refine hK.out _ _ ⟨HB3.out.p, HB3.out.nx⟩ (fun hS => ?_); clear hK K; (try simp only [List.getElem_toArray, List.getElem_cons_zero, List.getElem_cons_succ]); (try dsimp only [Act.put]); (try simp only [List.setIfInBounds_toArray, List.set_cons_zero, List.set_cons_succ]))
                      refine headH_all (rs := [4]) (by kernel_rfl) (by simp) (by kernel_rfl) ?_; intro i0 hi0; simp only [List.mem_cons, List.not_mem_nil, or_false] at hi0; subst hi0
                      (refine headH_op rfl (fun K hK => ?_); (try simp only [List.getElem_toArray, List.getElem_cons_zero, List.getElem_cons_succ]); go_simp)
                      refine (HY.out _).mono ?_
                      rintro e W2 ⟨rfl, hb⟩
                      dsimp only
                      have HB4 := Lib.hid (HB3.out.quiet hb)
                      have HD4 := Lib.hid (own_below HD3.out hb)
                      have HE4 := Lib.hid (own_below HE3.out hb)
                      clear HB3 HD3 HE3 hb
                      (refine hK.out _ _ ⟨HB4.out.p, HB4.out.nx⟩ (fun hS => ?_); clear hK K; (try simp only [List.getElem_toArray, List.getElem_cons_zero, List.getElem_cons_succ]); (try dsimp only [Act.put]); (try simp only [List.setIfInBounds_toArray, List.set_cons_zero, List.set_cons_succ]))
                      refine headH_all (rs := [5]) (by kernel_rfl) (by simp) (by kernel_rfl) ?_; intro i0 hi0; simp only [List.mem_cons, List.not_mem_nil, or_false] at hi0; subst hi0
                      (refine headH_op rfl (fun K hK => ?_); (try simp only [List.getElem_toArray, List.getElem_cons_zero, List.getElem_cons_succ]); go_simp)
                      have HNW := Lib.hid (al_new W2 (.cells #[.int .i64 n] 3) _ rfl)
                      have HBn := Lib.hid (HB4.out.quiet (rd_below W2 (.cells #[.int .i64 n] 3)))
                      have HDn := Lib.hid (own_below HD4.out (rd_below W2 (.cells #[.int .i64 n] 3)))
                      have HEn := Lib.hid (own_below HE4.out (rd_below W2 (.cells #[.int .i64 n] 3)))
                      clear HB4 HD4 HE4
                      generalize World.alloc W2 _ = W4 at *
                      generalize W2.heap.size = nwb at *
                      (refine hK.out _ _ ⟨HBn.out.p, HBn.out.nx⟩ (fun hS => ?_); clear hK K; (try simp only [List.getElem_toArray, List.getElem_cons_zero, List.getElem_cons_succ]); (try dsimp only [Act.put]); (try simp only [List.setIfInBounds_toArray, List.set_cons_zero, List.set_cons_succ]))
                      refine headH_all (rs := [6]) (by kernel_rfl) (by simp) (by kernel_rfl) ?_; intro i0 hi0; simp only [List.mem_cons, List.not_mem_nil, or_false] at hi0; subst hi0
                      refine headH_op rfl (fun K hK => ?_)
                      refine step_append_lies _ rfl _ _ 40 rfl w.heap.size 3 j0 _ 1 8 Tryz.underlying40 hj0 hz0 hz1 hz2 rfl (by decide) (.slice ea E.length ec) E.length (deC E) rfl HEn.out ⟨nwb, 0, none⟩ 1 1 [.int .i64 n] rfl rfl (World.news_of_block HNW.out) HONE.out (by decide) hb63 hb47 HBn.out.below.size _ rfl ?_
                      intro g7 p7 W5 hown hgrow hat hlt
                      have HB5 := Lib.hid (HBn.out.grown HEn.out hgrow (by decide))
                      have HD5 := Lib.hid (HDn.out.kept hgrow (own_ne HDn.out HEn.out (by decide)))
                      refine hK.out _ _ ⟨HB5.out.p, HB5.out.nx⟩ (fun hS => ?_)
                      clear hK K hgrow hat hlt hS
                      (try simp only [List.getElem_toArray, List.getElem_cons_zero, List.getElem_cons_succ]); (try dsimp only [Act.put]); (try simp only [List.setIfInBounds_toArray, List.set_cons_zero, List.set_cons_succ])
                      change tailL _ _ _ _ _ _ _ _
                      refine ⟨by kernel_rfl, ?_⟩
                      simp only [List.drop_succ_cons, List.drop_zero]
                      have y0 : W5.cell? ⟨pb, 14, none⟩ = some (.slice ea E.length ec) := cell_of_row _ _ 14 _ _ _ HB5.out.p
                      have y1 : W5.frozen? ⟨pb, 14, none⟩ = false := Lib.frozen_of_heap HB5.out.p 14
                      have HB6 := Lib.hid (HB5.out.put CC.out 14 (.slice (some ⟨g7, 0, none⟩) (E.length + 1) p7) (cells' := pcs i0 i1 (deF l) dv (.slice (some ⟨g7, 0, none⟩) (E.length + 1) p7)) rfl)
                      have HD6 := Lib.hid (row_pop HD5.out HB5.out.p (by decide) 14 (.slice (some ⟨g7, 0, none⟩) (E.length + 1) p7))
                      have HE6 := Lib.hid (show (W5.setCell ⟨pb, 14, none⟩ (.slice (some ⟨g7, 0, none⟩) (E.length + 1) p7)).ownsRow w.heap.size 3 1 (.slice (some ⟨g7, 0, none⟩) (E.length + 1) p7) (E ++ [n]).length (deC (E ++ [n])) from by
                        rw [List.length_append, List.length_singleton, deC_snoc]
                        exact row_pop hown HB5.out.p (by decide) 14 _)
                      clear hown HBn HDn HEn HB5 HD5 HNW
                      go_wp2_with fail
                      go_roundw
                      case rel => exact ⟨j + 1, E ++ [n], _, by simp, HI2, by rw [HK1.out]; exact HB6, HD6, HE6⟩
                      case measure => rw [wLen_is HB6.out.wd, HMS.out]; exact HKM.out
        case rest =>
          obtain ⟨k', E, ev, HT, HB, HD, HE⟩ := hcut
          have HLE := Lib.hid (show lineR ws = (if k' < ws.length then none else some E).map fun e => (⟨(i0 : Int), (i1 : Int), l, D, e⟩ : PP) from by rw [HLD.out, HT.out])
          obtain ⟨xa, hxa, _⟩ := HB.out.wd.box
          have x0 := cell_of_row _ _ 0 _ _ _ hxa
          have hkl' := HB.out.wd.le
          clear hxa HLD HT HD1 HB1
          by_cases hkl : k' < ws.length
          case pos =>
            obtain ⟨m, hm⟩ : ∃ m, ws.length - k' = m + 1 := ⟨ws.length - k' - 1, by omega⟩
            rw [hm] at x0
            have h1 : (0 : Int) < ((m + 1 : Nat) : Int) := by omega
            have HN := Lib.hid (show lineR ws = none from by rw [HLE.out, if_pos hkl]; rfl)
            clear hkl hm
            go_wp2
            simp only [bodyPost]
            exact ⟨trivial, HRN.out _ HB.out.below HN.out⟩
          case neg =>
            have hm : ws.length - k' = 0 := by omega
            rw [hm] at x0
            have HN := Lib.hid (show lineR ws = some ⟨(i0 : Int), (i1 : Int), l, D, E⟩ from by rw [HLE.out, if_neg hkl]; rfl)
            clear hkl hm
            obtain ⟨da, dc, rfl⟩ := own_len HD.out
            obtain ⟨ea, ec, rfl⟩ := own_len HE.out
            go_upto_region 28 with (fail)
            have hp : ∀ j, wc.cell? ⟨pb, j, none⟩ = (#[.int .i64 (i0 : Int), .int .i64 (i1 : Int), .int .i64 (deF l 0), .int .i64 (deF l 1), .int .i64 (deF l 2), .int .i64 (deF l 3), .int .i64 (deF l 4), .int .i64 (deF l 5), .int .i64 (deF l 6), .int .i64 (deF l 7), .int .i64 (deF l 8), .int .i64 (deF l 9), .int .i64 (deF l 10), .slice da D.length dc, .slice ea E.length ec] : Array Value)[j]? := fun j => cell_of_row _ _ j _ _ _ HB.out.p
            have hr : ∀ j, wc.cell? ⟨w.heap.size, j, none⟩ = (#[.int .i64 0, .int .i64 0, .int .i64 0, .int .i64 0, .int .i64 0, .int .i64 0, .int .i64 0, .int .i64 0, .int .i64 0, .int .i64 0, .int .i64 0, .int .i64 0, .int .i64 0, .slice none 0 0, .slice none 0 0] : Array Value)[j]? := fun j => cell_of_row _ _ j _ _ _ HB.out.rbx
            have hrf : ∀ j, wc.frozen? ⟨w.heap.size, j, none⟩ = false := fun j => Lib.frozen_of_heap HB.out.rbx j
            have HBW := Lib.hid (below_fill (Nat.le_refl _) [.int .i64 (i0 : Int), .int .i64 (i1 : Int), .int .i64 (deF l 0), .int .i64 (deF l 1), .int .i64 (deF l 2), .int .i64 (deF l 3), .int .i64 (deF l 4), .int .i64 (deF l 5), .int .i64 (deF l 6), .int .i64 (deF l 7), .int .i64 (deF l 8), .int .i64 (deF l 9), .int .i64 (deF l 10), .slice da D.length dc, .slice ea E.length ec] 0 wc HB.out.below)
            have HDW := Lib.hid (row_fill [.int .i64 (i0 : Int), .int .i64 (i1 : Int), .int .i64 (deF l 0), .int .i64 (deF l 1), .int .i64 (deF l 2), .int .i64 (deF l 3), .int .i64 (deF l 4), .int .i64 (deF l 5), .int .i64 (deF l 6), .int .i64 (deF l 7), .int .i64 (deF l 8), .int .i64 (deF l 9), .int .i64 (deF l 10), .slice da D.length dc, .slice ea E.length ec] 0 wc HD.out HB.out.rbx (by decide))
            have HEW := Lib.hid (row_fill [.int .i64 (i0 : Int), .int .i64 (i1 : Int), .int .i64 (deF l 0), .int .i64 (deF l 1), .int .i64 (deF l 2), .int .i64 (deF l 3), .int .i64 (deF l 4), .int .i64 (deF l 5), .int .i64 (deF l 6), .int .i64 (deF l 7), .int .i64 (deF l 8), .int .i64 (deF l 9), .int .i64 (deF l 10), .slice da D.length dc, .slice ea E.length ec] 0 wc HE.out HB.out.rbx (by decide))
            have HRG := Lib.hid (World.rangeAt_setCells_same wc w.heap.size 0 [.int .i64 (i0 : Int), .int .i64 (i1 : Int), .int .i64 (deF l 0), .int .i64 (deF l 1), .int .i64 (deF l 2), .int .i64 (deF l 3), .int .i64 (deF l 4), .int .i64 (deF l 5), .int .i64 (deF l 6), .int .i64 (deF l 7), .int .i64 (deF l 8), .int .i64 (deF l 9), .int .i64 (deF l 10), .slice da D.length dc, .slice ea E.length ec] (fun j hj => ⟨by rw [Nat.zero_add, hr, Array.getElem?_eq_getElem (by simpa using hj)]; rfl, hrf _⟩))
            clear HD HE
            go_wp2
            refine bodyPost_ret (ret_cell_one rfl _ _ (w.heap.size) [.int .i64 (i0 : Int), .int .i64 (i1 : Int), .int .i64 (deF l 0), .int .i64 (deF l 1), .int .i64 (deF l 2), .int .i64 (deF l 3), .int .i64 (deF l 4), .int .i64 (deF l 5), .int .i64 (deF l 6), .int .i64 (deF l 7), .int .i64 (deF l 8), .int .i64 (deF l 9), .int .i64 (deF l 10), .slice da D.length dc, .slice ea E.length ec] rfl ?hr Tryz.underlying42 rfl size_plane) rfl ?hv
            case hr => exact HRG.out
            case hv => exact HRS.out _ i0 i1 l da dc D ea ec E HBW.out HN.out HLL.out HDW.out HEW.out
end Go.Proofs.YtegimepmccilfaaGreatDoor
