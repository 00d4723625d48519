/- The walk of the reference's Events. -/
import Derived.Test.YtgcepjminlapiaaEvG
import Derived.Test.YtgcepjminlapiaaEvR
import Derived.Test.YtgcepjminlapiaaEvC
namespace Go.Proofs.Ytgcepjminlapiaa
open Go.RowKit
set_option linter.unusedVariables false
set_option linter.unusedSimpArgs false
def fiV (F : Option Nat) : Int := match F with
  | none => -1
  | some f => (f : Int)
theorem timeLo_hi {p : PR} {h : HV} (hS : Shaped p) (hk : (p.kind == 3) = false) : timeLo p h ≤ timeHi p h := by
  obtain ⟨j1, j2⟩ := hS.jitter
  obtain ⟨c1, c2, c3⟩ := hS.clock
  have hk' : ¬ p.kind = 3 := by simpa using hk
  unfold timeLo timeHi
  rw [if_neg hk', if_neg hk']
  omega
def REvRes (w : World) (m : Nat) (cs : List (List Nat)) (e : Ending) (w' : World) : Prop := ∃ oa oc, e = .returned (.slice oa cs.length oc) ∧ Lists w'.heap.size w' oa (cs.map (byNumber m)) ∧ Below w.heap.size w w'
def slen : Value → Nat
  | .slice _ n _ => n
  | _ => 0
/-- what the reference holds at the head of its search -/
structure RE (W0 : World) (m mb : Nat) (cs : List (List Nat)) (q : Nat) (rows : List Row) (v : Value) (W : World) : Prop where
  er : ER W0 rows v W
  br : BR W mb m (metIn cs q)
  mb0 : W0.heap.size ≤ mb
  ev : rows.map (·.1) = (cs.take q).map (byNumber m)
theorem RE.len {W0 : World} {m mb : Nat} {cs : List (List Nat)} {q : Nat} {rows : List Row} {v : Value} {W : World} (h : RE W0 m mb cs q rows v W) (hq : q ≤ cs.length) : rows.length = q := by
  have := congrArg List.length h.ev
  simp at this
  omega
theorem AllSwept.many {m : Nat} {lo hi : Nat → Int} {film : Nat → Bool} {cs : List (List Nat)} (h : AllSwept m lo hi film cs) : cs.length ≤ m := by
  have h1 := (flat_len cs h.ne).1
  have hc : ∀ i ∈ cs.flatten, i < m := fun i hi => by
    obtain ⟨c, hc, hic⟩ := List.mem_flatten.1 hi
    exact (h.inside c hc i hic).1
  have h2 := byNumber_len hc (before_nodup h.sorted)
  have h3 : (byNumber m cs.flatten).length ≤ m := by
    have := List.length_filter_le (fun i => decide (i ∈ cs.flatten)) (List.range m)
    simpa [byNumber] using this
  omega
theorem field_span (x y : Int) (W : World) : (Instr.field 34 (.agg #[.int .i64 x, .int .i64 y]) 0).run Try.prog W = .ok (.int .i64 x) W := by kernel_rfl
/-- what the reference holds while it gathers an event: the set in block ib -/
structure RI (W0 : World) (m mb : Nat) (cs : List (List Nat)) (q : Nat) (rows : List Row) (v : Value) (ib : Nat) (g : Nat → Bool) (W : World) : Prop where
  re : RE W0 m mb cs q rows v W
  bi : BR W ib m g
  ib0 : W0.heap.size ≤ ib
  ne : ib ≠ mb
section
variable {W0 : World} {m mb : Nat} {cs : List (List Nat)} {q : Nat} {rows : List Row} {v : Value} {ib : Nat} {g : Nat → Bool} {W W' : World}
theorem RE.step (h : RE W0 m mb cs q rows v W) (hb : Below W.heap.size W W') : RE W0 m mb cs q rows v W' := ⟨h.er.step hb, h.br.step hb, h.mb0, h.ev⟩
theorem RI.step (h : RI W0 m mb cs q rows v ib g W) (hb : Below W.heap.size W W') : RI W0 m mb cs q rows v ib g W' := ⟨h.re.step hb, h.bi.step hb, h.ib0, h.ne⟩
theorem RI.set (h : RI W0 m mb cs q rows v ib g W) {i : Nat} (hi : i < m) : RI W0 m mb cs q rows v ib (setG g i) (W.setCell ⟨ib, i, none⟩ (.bool true)) :=
  ⟨⟨h.re.er.bset h.bi h.ib0 _, h.re.br.other h.ne _, h.re.mb0, h.re.ev⟩, h.bi.set hi, h.ib0, h.ne⟩
theorem RI.start (h : RE W0 m mb cs q rows v W) {f : Nat} (hf : f < m) : (W.alloc (.cells (madeCells #[.bool false] m) 4)).cell? ⟨W.heap.size, f, none⟩ = some (.bool false) ∧ (W.alloc (.cells (madeCells #[.bool false] m) 4)).frozen? ⟨W.heap.size, f, none⟩ = false ∧ RI W0 m mb cs q rows v W.heap.size (setG (fun _ => false) f) ((W.alloc (.cells (madeCells #[.bool false] m) 4)).setCell ⟨W.heap.size, f, none⟩ (.bool true)) := by
  have hb := BR.made W m
  have h0 : RI W0 m mb cs q rows v W.heap.size (fun _ => false) (W.alloc (.cells (madeCells #[.bool false] m) 4)) := ⟨h.step ((Below.refl _ _).alloc (Nat.le_refl _) _), hb, h.er.below.size, Nat.ne_of_gt h.br.lt⟩
  exact ⟨hb.cell hf, hb.frozen f, h0.set hf⟩
end
/-- what the reference holds while it writes an event down -/
structure RJ (W0 : World) (m mb : Nat) (rows : List Row) (v : Value) (ib : Nat) (g : Nat → Bool) (ev : List Nat) (ve : Value) (met : Nat → Bool) (W : World) : Prop where
  er : ER W0 rows v W
  bm : BR W mb m met
  bi : BR W ib m g
  mb0 : W0.heap.size ≤ mb
  ne : ib ≠ mb
  own : W.ownsRow W0.heap.size 3 1 ve ev.length (nC ev)
  far : ∀ r ∈ rows, ve.ownBlock ≠ some r.2.1
section
variable {W0 : World} {m mb : Nat} {rows : List Row} {v : Value} {ib : Nat} {g : Nat → Bool} {ev : List Nat} {ve : Value} {met : Nat → Bool} {W W' : World}
theorem RJ.start {cs : List (List Nat)} {q : Nat} (h : RI W0 m mb cs q rows v ib g W) : RJ W0 m mb rows v ib g [] (.slice none 0 0) (metIn cs q) W :=
  ⟨h.re.er, h.re.br, h.bi, h.re.mb0, h.ne, World.ownsRow_nil _ _ _ _, fun r _ => by simp [Value.ownBlock]⟩
theorem RJ.congr {met' : Nat → Bool} (h : RJ W0 m mb rows v ib g ev ve met W) (e : ∀ j, j < m → met j = met' j) : RJ W0 m mb rows v ib g ev ve met' W :=
  ⟨h.er, h.bm.congr e, h.bi, h.mb0, h.ne, h.own, h.far⟩
theorem RJ.alloc (h : RJ W0 m mb rows v ib g ev ve met W) (o : Obj) : RJ W0 m mb rows v ib g ev ve met (W.alloc o) :=
  ⟨h.er.alloc o, h.bm.alloc o, h.bi.alloc o, h.mb0, h.ne, h.own.alloc o, h.far⟩
theorem RJ.mark {k : Nat} (h : RJ W0 m mb rows v ib g ev ve met W) (hk : k < m) : RJ W0 m mb rows v ib g ev ve (setG met k) (W.setCell ⟨mb, k, none⟩ (.bool true)) := by
  obtain ⟨cur, h1, _, _⟩ := h.bm
  exact ⟨h.er.bset h.bm h.mb0 _, h.bm.set hk, h.bi.other (Ne.symm h.ne) _, h.mb0, h.ne, ownsRow_setCell_other h.own (own_off' h.own h1 (by decide)) _, h.far⟩
theorem RJ.app {k g2 cap2 : Nat} (h : RJ W0 m mb rows v ib g ev ve met W) (ho : W'.ownsRow W0.heap.size 3 1 (.slice (some ⟨g2, 0, none⟩) (ev.length + 1) cap2) (ev.length + 1) (nC ev ++ [.int .i64 (k : Int)])) (hg : W.grownBy W' ve.ownBlock) (hat : ve.ownBlock = some g2 ∨ g2 = W.heap.size) :
    RJ W0 m mb rows v ib g (ev ++ [k]) (.slice (some ⟨g2, 0, none⟩) (ev ++ [k]).length cap2) met W' := by
  have hl : (ev ++ [k]).length = ev.length + 1 := by simp
  have nb : ∀ {b f}, BR W b m f → some b ≠ ve.ownBlock := fun {b f} hb e => by
    obtain ⟨cur, h1, _, _⟩ := hb
    exact own_off' h.own h1 (by decide) e.symm
  refine ⟨⟨h.er.below.grown hg h.er.below.size (fun g e => (h.own.lt g e).1), h.er.outer.kept hg (own_ne h.er.outer h.own (by decide)), fun r hr => (h.er.inner r hr).kept hg (.inr (fun e => h.far r hr (by rw [← e]; rfl))), h.er.apart⟩, h.bm.grown hg (nb h.bm), h.bi.grown hg (nb h.bi), h.mb0, h.ne, ?_, fun r hr => ?_⟩
  · rw [hl, nC_append]; exact ho
  · have hlt := (h.er.lt hr).2
    rcases hat with e | e
    · have := h.far r hr
      rw [e] at this
      simpa [Value.ownBlock] using this
    · simp only [Value.ownBlock, ne_eq, Option.some.injEq]
      omega
theorem RJ.push {q gE vc : Nat} {v' : Value} (h : RJ W0 m mb rows v ib g ev (.slice (some ⟨gE, 0, none⟩) ev.length vc) met W) (hq : rows.length = q) (ho : W'.ownsRow W0.heap.size 47 1 v' (q + 1) (rowsC rows ++ [.slice (some ⟨gE, 0, none⟩) ev.length vc])) (hg : W.grownBy W' v.ownBlock) :
    ER W0 (rows ++ [(ev, gE, vc)]) v' W' ∧ BR W' mb m met := by
  subst hq
  refine ⟨h.er.push (r := (ev, gE, vc)) h.own (fun s hs e => h.far s hs (by rw [e]; rfl)) ho hg, h.bm.grown hg (fun e => ?_)⟩
  obtain ⟨cur, h1, _, _⟩ := h.bm
  exact own_off' h.er.outer h1 (by decide) e.symm
theorem RE.of {cs : List (List Nat)} {q : Nat} (h1 : ER W0 rows v W) (h2 : BR W mb m (metIn cs q)) (h3 : W0.heap.size ≤ mb) (h4 : rows.map (·.1) = (cs.take q).map (byNumber m)) : RE W0 m mb cs q rows v W := ⟨h1, h2, h3, h4⟩
end
def evL (c : List Nat) (k : Nat) : List Nat := (List.range k).filter (fun j => decide (j ∈ c))
theorem evL_len (c : List Nat) (k : Nat) : (evL c k).length ≤ k := by
  have := List.length_filter_le (fun j => decide (j ∈ c)) (List.range k)
  simpa [evL] using this
theorem evL_skip {c : List Nat} {k : Nat} (h : ¬ k ∈ c) : evL c k = evL c (k + 1) := by simp [evL, List.range_succ, h]
theorem evL_take {c : List Nat} {k : Nat} (h : k ∈ c) : evL c k ++ [k] = evL c (k + 1) := by simp [evL, List.range_succ, h]
theorem evL_mem {c : List Nat} {k j : Nat} : j ∈ evL c k ↔ j < k ∧ j ∈ c := by simp [evL]
def metF (cs : List (List Nat)) (q : Nat) (c : List Nat) (k : Nat) : Nat → Bool := fun j => metIn cs q j || (decide (j < k) && decide (j ∈ c))
theorem metF_skip {cs : List (List Nat)} {q : Nat} {c : List Nat} {k : Nat} (h : ¬ k ∈ c) (j : Nat) : metF cs q c (k + 1) j = metF cs q c k j := by
  unfold metF
  by_cases e : j = k
  · subst e; simp [h]
  · have : (j < k + 1) ↔ (j < k) := by omega
    simp [this]
theorem metF_take {cs : List (List Nat)} {q : Nat} {c : List Nat} {k : Nat} (h : k ∈ c) (j : Nat) : metF cs q c (k + 1) j = setG (metF cs q c k) k j := by
  unfold metF setG
  by_cases e : j = k
  · subst e; simp [h]
  · have : (j < k + 1) ↔ (j < k) := by omega
    simp [this, e]
theorem metF_all {cs : List (List Nat)} {q : Nat} {c : List Nat} {m j : Nat} (h : cs.take (q + 1) = cs.take q ++ [c]) (hj : j < m) : metF cs q c m j = metIn cs (q + 1) j := by
  unfold metF metIn
  rw [h]
  simp [hj]
def cntB (W : World) (b m : Nat) : Nat := cnt m (fun j => match W.cell? ⟨b, j, none⟩ with
  | some (.bool t) => t
  | _ => true)
theorem BR.cnt {W : World} {b m : Nat} {g : Nat → Bool} (h : BR W b m g) : cntB W b m = cnt m g := by
  unfold cntB Go.Proofs.Ytgcepjminlapiaa.cnt
  congr 1
  apply List.filter_congr
  intro j hj
  simp at hj
  dsimp only
  rw [h.cell hj]
def chV : Value → Nat
  | .bool true => 1
  | _ => 0
set_option maxRecDepth 100000 in
set_option maxHeartbeats 4000000 in
theorem refEvents_any (a : Option Addr) (n c : Nat) (ps : Nat → PR) (ha : Option Addr) (m d : Nat) (hs : Nat → HV) (w : World) (B : Nat) (hBw : B ≤ w.heap.size) (hP : Planes B w a n ps) (hH : Hits B w ha m hs) (hC : checkB n ps = true) (hall : ∀ i, i < m → ofB n ps (hs i) = true) (hm : m ≤ 2000) (cs : List (List Nat)) (hcs : AllSwept m (tlOf ps hs) (thOf ps hs) (filmOf ps hs) cs) :
    Calls Try.prog 46 #[setupV a n c, .slice ha m d] w (REvRes w m cs) := by
  (have hk : ∀ i, i < m → ∃ k, k < n ∧ (hs i).plane = (k : Int) ∧ hitB (ps k) (hs i) = true := fun i hi => ofB_yes (hall i hi))
  have hn16 := (checkB_n hC).2
  have HFI := Lib.hid (fun (W : World) (i : Nat) (hi : i < m) (hW : Below w.heap.size w W) => show Calls Try.prog 78 #[.agg #[.slice a n c], (hs i).val] W (fun e w' => e = .returned (.bool (filmOf ps hs i)) ∧ Below W.heap.size W w') from by
    obtain ⟨k, hkn, hkp, hkh⟩ := hk i hi
    have e : (hs i).plane.toNat = k := by rw [hkp]; simp
    unfold filmOf; rw [e]
    exact Film_any a n c ps (hs i) W B (Nat.le_trans hBw hW.size) (hP.below (hW.mono hBw)) hn16 k hkn hkp)
  have HTI := Lib.hid (fun (W : World) (i : Nat) (hi : i < m) (hW : Below w.heap.size w W) => show Calls Try.prog 21 #[.agg #[.slice a n c], (hs i).val] W (fun e w' => e = .returned (.agg #[.int .i64 (tlOf ps hs i), .int .i64 (thOf ps hs i)]) ∧ Below W.heap.size W w') from by
    obtain ⟨k, hkn, hkp, hkh⟩ := hk i hi
    have e : (hs i).plane.toNat = k := by rw [hkp]; simp
    unfold tlOf thOf; rw [e]
    exact refTimes_t2 (Nat.le_trans hBw hW.size) (hP.below (hW.mono hBw)) hn16 hkn hkp (properB_shaped (checkB_plane hC hkn)) (hitB_pre' hkh).2.2.2)
  have HTO := Lib.hid (fun (W : World) (i j : Nat) (hi : i < m) (hj : j < m) (hW : Below w.heap.size w W) => show Calls Try.prog 79 #[.agg #[.slice a n c], (hs i).val, (hs j).val] W (fun e w' => e = .returned (.bool (touchB (tlOf ps hs i) (thOf ps hs i) (tlOf ps hs j) (thOf ps hs j))) ∧ Below W.heap.size W w') from by
    obtain ⟨k, hkn, hkp, hkh⟩ := hk i hi
    obtain ⟨k2, hkn2, hkp2, hkh2⟩ := hk j hj
    have e : (hs i).plane.toNat = k := by rw [hkp]; simp
    have e2 : (hs j).plane.toNat = k2 := by rw [hkp2]; simp
    unfold tlOf thOf; rw [e, e2]
    exact touch_any a n c ps (hs i) (hs j) W B (Nat.le_trans hBw hW.size) (hP.below (hW.mono hBw)) hn16 k hkn hkp (properB_shaped (checkB_plane hC hkn)) (hitB_pre' hkh).2.2.2 k2 hkn2 hkp2 (properB_shaped (checkB_plane hC hkn2)) (hitB_pre' hkh2).2.2.2)
  have HLH := Lib.hid (show ∀ i, i < m → filmOf ps hs i = false → tlOf ps hs i ≤ thOf ps hs i from fun i hi hf => by
    obtain ⟨k, hkn, hkp, hkh⟩ := hk i hi
    have e : (hs i).plane.toNat = k := by rw [hkp]; simp
    unfold filmOf at hf
    unfold tlOf thOf
    rw [e] at hf ⊢
    exact timeLo_hi (properB_shaped (checkB_plane hC hkn)) hf)
  have HH := Lib.hid hH
  have HCS := Lib.hid hcs
  generalize tlOf ps hs = lo at *
  generalize thOf ps hs = hi at *
  generalize filmOf ps hs = film at *
  have hfld : ∀ (x y : Int) (W : World), (Instr.field 34 (.agg #[.int .i64 x, .int .i64 y]) 0).run Try.prog W = .ok (.int .i64 x) W := fun x y W => field_span x y W
  have hmk := fun W : World => run_make_row' (P := Try.prog) 127 4 (.bool false) 1 Try.underlying127 info_bool rfl .i64 .i64 m (by omega) (by omega) W
  have HRES := Lib.hid (fun (e : Ending) (w' : World) (oa : Option Addr) (oc : Nat) (he : e = .returned (.slice oa cs.length oc)) (hl : Lists w'.heap.size w' oa (cs.map (byNumber m))) (hb : Below w.heap.size w w') => show REvRes w m cs e w' from ⟨oa, oc, he, hl, hb⟩)
  clear hP hH hall hk hC hcs
  go_enter Try.func46, Try.ntmps46
  go_upto_region 2 with (fail)
  have HW0 := Lib.hid (show RE (w.alloc (.cells #[.slice a n c] 24)) m (w.heap.size + 1) cs 0 [] (.slice none 0 0) ((w.alloc (.cells #[.slice a n c] 24)).alloc (.cells (madeCells #[.bool false] m) 4)) from
    ⟨(ER.start _).alloc _, by have := BR.made (w.alloc (.cells #[.slice a n c] 24)) m; simp at this; exact this.congr (fun j _ => by simp [metIn]), by simp, by simp⟩)
  have HS0 := Lib.hid (show (w.alloc (.cells #[.slice a n c] 24)).cell? ⟨w.heap.size, 0, none⟩ = some (.slice a n c) ∧ Below w.heap.size w (w.alloc (.cells #[.slice a n c] 24)) ∧ (w.alloc (.cells #[.slice a n c] 24)).heap.size = w.heap.size + 1 from ⟨cell_of_row _ _ _ _ _ _ (heapQ_new rfl), (Below.refl _ _).alloc (Nat.le_refl _) _, by simp⟩)
  generalize hW00 : w.alloc (.cells #[.slice a n c] 24) = W0 at *
  clear hW00
  generalize World.alloc W0 _ = W1 at *
  go_wp2
  go_loopw [6] (fun s6 wx => ∃ (q : Nat) (rows : List Row) (oa : Option Addr) (oc : Nat), q ≤ cs.length ∧ s6 = .slice oa q oc ∧ Hid (RE W0 m (w.heap.size + 1) cs q rows (.slice oa q oc) wx)) (fun s6 _ => cs.length - slen s6)
  case atStart => exact ⟨0, [], none, 0, Nat.zero_le _, rfl, HW0⟩
  case round =>
    clear HW0
    obtain ⟨wo, rfl⟩ : ∃ wo : World, wo = wr := ⟨_, rfl⟩
    obtain ⟨q, rows, oa, oc, hq, rfl, HR⟩ := hrel
    have hrq := HR.out.len hq
    have hb0 := HR.out.er.below
    have hbo : Below w.heap.size w wo := HS0.out.2.1.trans (hb0.mono (by rw [HS0.out.2.2]; omega))
    have hboz := hbo.size
    have hwo1 : w.heap.size + 1 ≤ wo.heap.size := by have := hb0.size; rw [HS0.out.2.2] at this; exact this
    have hql : cs.length ≤ 2000 := Nat.le_trans HCS.out.many hm
    have cS : wo.cell? ⟨w.heap.size, 0, none⟩ = some (.slice a n c) := ((bcell hb0).1 _ _ (by rw [HS0.out.2.2]; omega)).trans HS0.out.1
    have CS := Lib.hid cS
    clear hb0 cS
    go_wp2
    go_loopw [7, 8] (fun s7 s8 wx => ∃ (i : Nat) (F : Option Nat), i ≤ m ∧ s8 = .int .i64 (i : Int) ∧ s7 = .int .i64 (fiV F) ∧ Hid (FirstInv lo (fun i => !metIn cs q i && !film i) F i) ∧ Hid (Below wo.heap.size wo wx)) (fun _ s8 _ => m - (intOf s8).toNat)
    case atStart => exact ⟨0, none, Nat.zero_le _, rfl, rfl, Lib.hid (first_start _ _), Lib.hid (Below.refl _ _)⟩
    case round =>
      obtain ⟨i, F, hi', rfl, rfl, HF, HB⟩ := hrel
      by_cases hlt : i < m
      · have hlt' : (i : Int) < (m : Int) := by omega
        have hbr := HR.out.br.step HB.out
        have hBz := HB.out.size
        have hbw : Below w.heap.size w wr := hbo.trans (HB.out.mono hboz)
        have cB := hbr.cell hlt
        have lB := hbr.lt
        have cS := ((bcell HB.out).1 w.heap.size 0 (by omega)).trans CS.out
        have HBW := Lib.hid hbw
        obtain ⟨b, off, rfl, hbB, y0, y1, y2, y3, y4, y5⟩ := (HH.out.below (hbw.mono hBw)).get hlt
        have hbz : b < wr.heap.size := by omega
        have lS : w.heap.size < wr.heap.size := by omega
        have hgW := fun (X : Calm wr.heap.size wr) => HBW.out.trans (X.below.mono (show w.heap.size ≤ wr.heap.size by omega))
        have HGW := Lib.hid hgW
        have HBO := Lib.hid (fun (X : Calm wr.heap.size wr) => HB.out.trans (X.below.mono hBz))
        clear hbr hbw hgW
        cases hmet : metIn cs q i
        · rw [hmet] at cB
          cases hfi : film i
          · have HFL := Lib.hid (fun (X : Calm wr.heap.size wr) => show Calls Try.prog 78 _ X.val (fun e w' => e = .returned (.bool false) ∧ Below X.val.heap.size X.val w') from by have h := HFI.out X.val i hlt (HGW.out X); rw [hfi] at h; exact h)
            have HCA := Lib.hid (show (!metIn cs q i && !film i) = true by rw [hmet, hfi]; rfl)
            cases F with
            | none =>
              have hF0 : fiV none = -1 := rfl
              rw [hF0]
              go_upto_region 7 with (fail)
              (refine wp_region_calm (wr.heap.size) (by kernel_rfl) (by kernel_rfl) ?_; (repeat (first | go_big_quiet_step ((go_at_call 78; exact Calls.calm_of (Nat.le_refl _) (HFL.out _))) | quiet_step ((go_at_call 78; exact Calls.calm_of (Nat.le_refl _) (HFL.out _))))); refine wpQuiet_nil ?_; intro _ hw'; obtain ⟨xq, hw''⟩ := hw'; subst hw'')
              go_wp2
              go_roundw
              case rel => exact ⟨i + 1, some i, by omega, by go_num, rfl, Lib.hid (first_take HF.out HCA.out (fun f h => by cases h)), Lib.hid (HBO.out xq)⟩
              case measure => simp [intOf]; omega
            | some f =>
              have hF0 : fiV (some f) = (f : Int) := rfl
              rw [hF0]
              have hfi2 : f < m := Nat.lt_of_lt_of_le HF.out.1 hi'
              obtain ⟨_, _, e9, _, z0, z1, z2, z3, z4, z5⟩ := (HH.out.below (HBW.out.mono hBw)).get hfi2
              injection e9 with e9
              injection e9 with e9 e10
              subst e9
              subst e10
              have hf1 : ¬ (f : Int) < 0 := by omega
              have hf2 : (f : Int) < (m : Int) := by omega
              have HTL := Lib.hid (fun (X : Calm wr.heap.size wr) => HTI.out X.val i hlt (HGW.out X))
              have HTF := Lib.hid (fun (X : Calm wr.heap.size wr) => HTI.out X.val f hfi2 (HGW.out X))
              by_cases hl : lo i < lo f
              · go_upto_region 7 with (fail)
                (refine wp_region_calm (wr.heap.size) (by kernel_rfl) (by kernel_rfl) ?_; (repeat (first | go_big_quiet_step (first | (go_at_call 78; exact Calls.calm_of (Nat.le_refl _) (HFL.out _)) | (go_at_call 21; (first | (with_reducible exact Calls.calm_of (Nat.le_refl _) (HTL.out _)) | (with_reducible exact Calls.calm_of (Nat.le_refl _) (HTF.out _))))) | quiet_step (first | (go_at_call 78; exact Calls.calm_of (Nat.le_refl _) (HFL.out _)) | (go_at_call 21; (first | (with_reducible exact Calls.calm_of (Nat.le_refl _) (HTL.out _)) | (with_reducible exact Calls.calm_of (Nat.le_refl _) (HTF.out _))))))); refine wpQuiet_nil ?_; intro _ hw'; obtain ⟨xq, hw''⟩ := hw'; subst hw'')
                go_wp2
                go_roundw
                case rel => exact ⟨i + 1, some i, by omega, by go_num, rfl, Lib.hid (first_take HF.out HCA.out (fun f' h => by injection h with h; subst h; exact hl)), Lib.hid (HBO.out xq)⟩
                case measure => simp [intOf]; omega
              · go_upto_region 7 with (fail)
                (refine wp_region_calm (wr.heap.size) (by kernel_rfl) (by kernel_rfl) ?_; (repeat (first | go_big_quiet_step (first | (go_at_call 78; exact Calls.calm_of (Nat.le_refl _) (HFL.out _)) | (go_at_call 21; (first | (with_reducible exact Calls.calm_of (Nat.le_refl _) (HTL.out _)) | (with_reducible exact Calls.calm_of (Nat.le_refl _) (HTF.out _))))) | quiet_step (first | (go_at_call 78; exact Calls.calm_of (Nat.le_refl _) (HFL.out _)) | (go_at_call 21; (first | (with_reducible exact Calls.calm_of (Nat.le_refl _) (HTL.out _)) | (with_reducible exact Calls.calm_of (Nat.le_refl _) (HTF.out _))))))); refine wpQuiet_nil ?_; intro _ hw'; obtain ⟨xq, hw''⟩ := hw'; subst hw'')
                go_wp2
                go_roundw
                case rel => exact ⟨i + 1, some f, by omega, by go_num, rfl, Lib.hid (first_skip HF.out (.inr ⟨f, rfl, hl⟩)), Lib.hid (HBO.out xq)⟩
                case measure => simp [intOf]; omega
          · have HFL := Lib.hid (fun (X : Calm wr.heap.size wr) => show Calls Try.prog 78 _ X.val (fun e w' => e = .returned (.bool true) ∧ Below X.val.heap.size X.val w') from by have h := HFI.out X.val i hlt (HGW.out X); rw [hfi] at h; exact h)
            have HCA := Lib.hid (show (!metIn cs q i && !film i) = false by rw [hfi]; simp)
            obtain ⟨fv, hfv⟩ : ∃ x, x = fiV F := ⟨_, rfl⟩
            rw [← hfv]
            have HFV := Lib.hid hfv
            clear hfv
            go_upto_region 7 with (fail)
            (refine wp_region_calm (wr.heap.size) (by kernel_rfl) (by kernel_rfl) ?_; (repeat (first | go_big_quiet_step ((go_at_call 78; exact Calls.calm_of (Nat.le_refl _) (HFL.out _))) | quiet_step ((go_at_call 78; exact Calls.calm_of (Nat.le_refl _) (HFL.out _))))); refine wpQuiet_nil ?_; intro _ hw'; obtain ⟨xq, hw''⟩ := hw'; subst hw'')
            go_wp2
            go_roundw
            case rel => exact ⟨i + 1, F, by omega, by go_num, by rw [HFV.out], Lib.hid (first_skip HF.out (.inl HCA.out)), Lib.hid (HBO.out xq)⟩
            case measure => simp [intOf]; omega
        · rw [hmet] at cB
          have HCA := Lib.hid (show (!metIn cs q i && !film i) = false by rw [hmet]; rfl)
          obtain ⟨fv, hfv⟩ : ∃ x, x = fiV F := ⟨_, rfl⟩
          rw [← hfv]
          have HFV := Lib.hid hfv
          clear hfv
          go_upto_region 7 with (fail)
          (refine wp_region_calm (wr.heap.size) (by kernel_rfl) (by kernel_rfl) ?_; (repeat (first | go_big_quiet_step ((fail)) | quiet_step ((fail)))); refine wpQuiet_nil ?_; intro _ hw'; obtain ⟨xq, hw''⟩ := hw'; subst hw'')
          go_wp2
          go_roundw
          case rel => exact ⟨i + 1, F, by omega, by go_num, by rw [HFV.out], Lib.hid (first_skip HF.out (.inl HCA.out)), Lib.hid (HBO.out xq)⟩
          case measure => simp [intOf]; omega
      · obtain rfl : i = m := by omega
        have hbw : Below w.heap.size w wr := hbo.trans (HB.out.mono hboz)
        have HRE := Lib.hid (show RE W0 i (w.heap.size + 1) cs q rows (.slice oa q oc) wr from ⟨HR.out.er.step HB.out, HR.out.br.step HB.out, HR.out.mb0, HR.out.ev⟩)
        have hBz := HB.out.size
        have HCS2 := Lib.hid (((bcell HB.out).1 w.heap.size 0 (by omega)).trans CS.out)
        clear HR HB CS hbo hboz
        cases F with
        | none =>
          have hqe := first_none HCS.out hq HF.out
          have hF0 : fiV none = -1 := rfl
          rw [hF0]
          have HBW := Lib.hid hbw
          subst hqe
          go_wp2
          go_ret
          refine HRES.out _ _ oa oc rfl ?_ HBW.out
          have h9 := HRE.out.er.lists
          rw [HRE.out.ev, List.take_length] at h9
          exact h9
        | some f =>
          obtain ⟨tl, es, hqlt, hsp, hsp2⟩ := first_some HCS.out hq HF.out
          have hF0 : fiV (some f) = (f : Int) := rfl
          rw [hF0]
          have hfm : f < i := HF.out.1
          have hf1 : ¬ (f : Int) < 0 := by omega
          have hf2 : (f : Int) < (i : Int) := by omega
          have hmem : (f :: tl) ∈ cs := by rw [hsp]; simp
          have HSP := Lib.hid (And.intro hsp hsp2)
          have HIN := Lib.hid (fun j hj => (HCS.out.inside _ hmem j hj).1)
          clear hsp hsp2 hmem
          go_upto_region 12 with (fail)
          have HI0 := Lib.hid (RI.start HRE.out hfm)
          have HREV := Lib.hid (And.intro HRE.out.mb0 HRE.out.ev)
          have hib : w.heap.size + 1 < wr.heap.size := HRE.out.br.lt
          have cI := HI0.out.1
          have cF := HI0.out.2.1
          have HI := Lib.hid HI0.out.2.2
          clear HI0 HRE
          go_upto_region 13 with (fail)
          have hbw2 : Below w.heap.size w ((wr.alloc (.cells (madeCells #[.bool false] i) 4)).setCell ⟨wr.heap.size, f, none⟩ (.bool true)) := (hbw.alloc (by omega) _).setCell (p := ⟨_, _, _⟩) (by simp; omega) _
          have HC2 := Lib.hid (show ((wr.alloc (.cells (madeCells #[.bool false] i) 4)).setCell ⟨wr.heap.size, f, none⟩ (.bool true)).cell? ⟨w.heap.size, 0, none⟩ = some (.slice a n c) from by rw [set_other (by omega)]; exact ((bcell ((Below.refl wr.heap.size wr).alloc (Nat.le_refl _) _)).1 _ _ (by omega)).trans HCS2.out)
          have hset : (wr.alloc (.cells (madeCells #[.bool false] i) 4)).setCell ⟨wr.heap.size, f, none⟩ (.bool true) = wr.alloc (.cells ((madeCells #[.bool false] i).setIfInBounds f (.bool true)) 4) := World.setCell_alloc_at _ _ _ _ _ rfl
          rw [hset] at HI hbw2 HC2
          clear cI cF hbw HCS2 hset
          generalize World.alloc wr _ = W2 at *
          generalize wr.heap.size = ib at *
          have hw2z := hbw2.size
          go_wp2
          go_loopw [10] (fun s10 wx => ∃ (ch : Bool) (g : Nat → Bool), s10 = .bool ch ∧ Hid (RI W0 i (w.heap.size + 1) cs q rows (.slice oa q oc) ib g wx ∧ g f = true ∧ (∀ j, g j = true → j ∈ f :: tl) ∧ (ch = false → ∀ j, g j = true ↔ j ∈ f :: tl)) ∧ Hid (wx.cell? ⟨w.heap.size, 0, none⟩ = some (.slice a n c) ∧ Below w.heap.size w wx)) (fun s10 wx => 2 * cntB wx ib i + chV s10)
          case atStart => exact ⟨true, setG (fun _ => false) f, rfl, Lib.hid ⟨HI.out, by simp [setG], fun j hj => by (simp [setG] at hj; simp [hj]), fun h => by cases h⟩, Lib.hid ⟨HC2.out, hbw2⟩⟩
          case round =>
            clear HI HC2 hbw2 hw2z
            obtain ⟨ch, g, rfl, HG, HW⟩ := hrel
            have HCN := Lib.hid HG.out.1.bi.cnt
            cases ch with
            | false =>
              have hgc := HG.out.2.2.2 rfl
              have HGC := Lib.hid hgc
              have HJ0 := Lib.hid (RJ.start HG.out.1)
              obtain ⟨i1, hi1, hz10, hz11, hz12⟩ := info_parts info_i64
              obtain ⟨i2, hi2, hz20, hz21, hz22⟩ := info_parts info_ints
              clear hgc HG HW HCN
              go_wp2
              go_loopw [13, 14] (fun s13 s14 wx => ∃ (k : Nat) (va : Option Addr) (vc : Nat) (EL : List Nat), k ≤ i ∧ s14 = .int .i64 (k : Int) ∧ s13 = .slice va EL.length vc ∧ Hid (EL = evL (f :: tl) k) ∧ Hid (RJ W0 i (w.heap.size + 1) rows (.slice oa q oc) ib g EL (.slice va EL.length vc) (metF cs q (f :: tl) k) wx)) (fun _ s14 _ => i - (intOf s14).toNat)
              case atStart => exact ⟨0, none, 0, [], Nat.zero_le _, rfl, rfl, Lib.hid rfl, Lib.hid (HJ0.out.congr (fun j _ => by simp [metF]))⟩
              case round =>
                clear HJ0
                obtain ⟨k, va, vc, EL, hk, rfl, rfl, HEL, HJ⟩ := hrel
                have hel : EL.length ≤ 2000 := by rw [HEL.out]; exact Nat.le_trans (evL_len _ _) (by omega)
                by_cases hkl : k < i
                · have hkl' : (k : Int) < (i : Int) := by omega
                  have cI := HJ.out.bi.cell hkl
                  have lI := HJ.out.bi.lt
                  cases hgk : g k
                  · rw [hgk] at cI
                    have hnc : ¬ k ∈ f :: tl := fun h => by rw [(HGC.out k).2 h] at hgk; cases hgk
                    have HNC := Lib.hid hnc
                    clear hnc
                    go_wp2
                    go_roundw
                    case rel => exact ⟨k + 1, va, vc, EL, by omega, by go_num, rfl, Lib.hid (by rw [HEL.out, evL_skip HNC.out]), Lib.hid (HJ.out.congr (fun j _ => (metF_skip HNC.out j).symm))⟩
                    case measure => simp [intOf]; omega
                  · rw [hgk] at cI
                    have HKC := Lib.hid ((HGC.out k).1 hgk)
                    have hb63 : EL.length + 1 ≤ maxLen := by unfold maxLen; omega
                    have hb47 : (EL.length + 1) * 8 ≤ 140737488355328 := by omega
                    have HB22 := Lib.hid (show ∀ o, W0.heap.size ≤ (wr.alloc o).heap.size from fun o => by have := HJ.out.er.below.size; simp; omega)
                    go_upto_region 30 with (at_builtin; refine wpList_append_lies _ rfl _ _ 47 rfl W0.heap.size 3 i1 (.int .i64 0) 1 8 Try.underlying47 hi1 hz10 hz11 hz12 rfl (by decide) _ EL.length (nC EL) rfl (HJ.out.own.alloc _) ⟨wr.heap.size, 0, none⟩ 1 1 [.int .i64 (k : Int)] rfl rfl cells_new one_int (by decide) hb63 hb47 (HB22.out _) _ rfl ?_; intro g2 cap2 w1 hown2 hgrow2 hat2 hlt2; have hJ2 := RJ.app (HJ.out.alloc _) hown2 hgrow2 hat2; have HJ2 := Lib.hid hJ2; clear hown2 hgrow2 hat2 hlt2 hJ2)
                    have cM := HJ2.out.bm.cell hkl
                    have fM := HJ2.out.bm.frozen k
                    have HEL2 := Lib.hid (show (EL ++ [k]).length = EL.length + 1 from by simp)
                    clear cI lI
                    go_wp2
                    go_roundw
                    case rel => exact ⟨k + 1, some ⟨g2, 0, none⟩, cap2, EL ++ [k], by omega, by go_num, by rw [HEL2.out], Lib.hid (by rw [HEL.out, evL_take HKC.out]), Lib.hid ((HJ2.out.mark hkl).congr (fun j _ => (metF_take HKC.out j).symm))⟩
                    case measure => simp [intOf]; omega
                · obtain rfl : k = i := by omega
                  have hkl' : ¬ (k : Int) < (k : Int) := by omega
                  have hne : 0 < EL.length := by
                    rw [HEL.out]
                    exact List.length_pos_of_mem (evL_mem.2 ⟨hfm, by simp⟩)
                  obtain ⟨gE, rfl, hgE1, hgE2⟩ := own_at HJ.out.own hne
                  have HOU := Lib.hid (show wr.ownsRow W0.heap.size 47 1 (.slice oa q oc) q (rowsC rows) from by have h := HJ.out.er.outer; rw [hrq] at h; exact h)
                  have hb63 : q + 1 ≤ maxLen := by unfold maxLen; omega
                  have hb47 : (q + 1) * 24 ≤ 140737488355328 := by omega
                  have HB22 := Lib.hid (show ∀ o, W0.heap.size ≤ (wr.alloc o).heap.size from fun o => by have := HJ.out.er.below.size; simp; omega)
                  go_wp2_with (at_builtin; refine wpList_append_lies _ rfl _ _ 81 rfl W0.heap.size 47 i2 (.slice none 0 0) 1 24 Try.underlying81 hi2 hz20 hz21 hz22 rfl (by decide) _ q (rowsC rows) rfl (HOU.out.alloc _) ⟨wr.heap.size, 0, none⟩ 1 1 [.slice (some ⟨gE, 0, none⟩) EL.length vc] rfl rfl cells_new one_slice (by decide) hb63 hb47 (HB22.out _) _ rfl ?_; intro g3 cap3 w1 hown3 hgrow3 hat3 hlt3; have hR2 := RJ.push (HJ.out.alloc _) hrq hown3 hgrow3; have HR2 := Lib.hid hR2; clear hown3 hgrow3 hat3 hlt3 hR2)
                  go_roundw
                  case rel => exact ⟨q + 1, rows ++ [(EL, gE, vc)], some ⟨g3, 0, none⟩, cap3, by omega, rfl, Lib.hid (RE.of HR2.out.1 (HR2.out.2.congr (fun j hj => metF_all HSP.out.2 hj)) HREV.out.1 (by rw [List.map_append, HREV.out.2, HSP.out.2, List.map_append, HEL.out]; rfl))⟩
                  case measure => simp [slen]; omega
            | true =>
              obtain ⟨w3, rfl⟩ : ∃ w3 : World, w3 = wr := ⟨_, rfl⟩
              go_wp2
              go_loopw [10, 11] (fun s10 s11 wx => ∃ (k1 : Nat) (ch : Bool) (g' : Nat → Bool), k1 ≤ i ∧ s11 = .int .i64 (k1 : Int) ∧ s10 = .bool ch ∧ Hid (RI W0 i (w.heap.size + 1) cs q rows (.slice oa q oc) ib g' wx ∧ Pass i lo hi film (f :: tl) g k1 g' ch) ∧ Hid (wx.cell? ⟨w.heap.size, 0, none⟩ = some (.slice a n c) ∧ Below w.heap.size w wx)) (fun _ s11 _ => i - (intOf s11).toNat)
              case atStart => exact ⟨0, false, g, Nat.zero_le _, rfl, rfl, Lib.hid ⟨HG.out.1, pass_start HG.out.2.2.1⟩, HW⟩
              case round =>
                clear HW
                obtain ⟨k1, ch, g', hk1, rfl, rfl, HP, HW⟩ := hrel
                by_cases hk1l : k1 < i
                · have hk1l' : (k1 : Int) < (i : Int) := by omega
                  go_wp2
                  go_loopw [10, 12] (fun s10 s12 wx => ∃ (k2 : Nat) (ch : Bool) (g' : Nat → Bool), k2 ≤ i ∧ s12 = .int .i64 (k2 : Int) ∧ s10 = .bool ch ∧ Hid (RI W0 i (w.heap.size + 1) cs q rows (.slice oa q oc) ib g' wx ∧ Held i lo hi film (f :: tl) g k1 k2 g' ch) ∧ Hid (wx.cell? ⟨w.heap.size, 0, none⟩ = some (.slice a n c) ∧ Below w.heap.size w wx)) (fun _ s12 _ => i - (intOf s12).toNat)
                  case atStart => exact ⟨0, ch, g', Nat.zero_le _, rfl, rfl, Lib.hid ⟨HP.out.1, held_start HP.out.2⟩, HW⟩
                  case round =>
                    clear HP HW
                    obtain ⟨k2, ch, g', hk2, rfl, rfl, HP, HW⟩ := hrel
                    have cS := HW.out.1
                    have hwb := HW.out.2.size
                    have cI := HP.out.1.bi.cell hk1l
                    have lI := HP.out.1.bi.lt
                    have lS : w.heap.size < wr.heap.size := by have := HP.out.1.re.br.lt; omega
                    obtain ⟨b, off, rfl, hbB, y0, y1, y2, y3, y4, y5⟩ := (HH.out.below (HW.out.2.mono hBw)).get hk1l
                    have hbz : b < wr.heap.size := by omega
                    have HGW := Lib.hid (fun (X : Calm wr.heap.size wr) => HW.out.2.trans (X.below.mono hwb))
                    have HRX := Lib.hid (fun (X : Calm wr.heap.size wr) => HP.out.1.step X.below)
                    have HCX := Lib.hid (fun (X : Calm wr.heap.size wr) => ((bcell X.below).1 w.heap.size 0 lS).trans HW.out.1)
                    by_cases hk2l : k2 < i
                    · have hk2l' : (k2 : Int) < (i : Int) := by omega
                      cases hgi : g' k1
                      · rw [hgi] at cI
                        cases hfi : film k1
                        · have HFL := Lib.hid (fun (X : Calm wr.heap.size wr) => show Calls Try.prog 78 _ X.val (fun e w' => e = .returned (.bool false) ∧ Below X.val.heap.size X.val w') from by have h := HFI.out X.val k1 hk1l (HGW.out X); rw [hfi] at h; exact h)
                          go_upto_region 20 with (fail)
                          (refine wp_region_calm (wr.heap.size) (by kernel_rfl) (by kernel_rfl) ?_; (repeat (first | go_big_quiet_step ((go_at_call 78; exact Calls.calm_of (Nat.le_refl _) (HFL.out _))) | quiet_step ((go_at_call 78; exact Calls.calm_of (Nat.le_refl _) (HFL.out _))))); refine wpQuiet_nil ?_; intro _ hw'; obtain ⟨xq, hw''⟩ := hw'; subst hw'')
                          have HR2 := Lib.hid (HRX.out xq)
                          have HC3 := Lib.hid (HCX.out xq)
                          have HB3 := Lib.hid (HGW.out xq)
                          clear HFL HGW HRX HCX cS cI lI lS y0 y1 y2 y3 y4 y5 hbz hwb HW
                          generalize xq.val = V at *
                          have cS := HC3.out
                          have hwb := HB3.out.size
                          have cK := HR2.out.bi.cell hk2l
                          have lI := HR2.out.bi.lt
                          have lS : w.heap.size < V.heap.size := by have := HR2.out.re.br.lt; omega
                          obtain ⟨_, _, e9, _, y0, y1, y2, y3, y4, y5⟩ := (HH.out.below (HB3.out.mono hBw)).get hk1l
                          injection e9 with e9
                          injection e9 with e9 e10
                          subst e9
                          subst e10
                          obtain ⟨_, _, e9, _, z0, z1, z2, z3, z4, z5⟩ := (HH.out.below (HB3.out.mono hBw)).get hk2l
                          injection e9 with e9
                          injection e9 with e9 e10
                          subst e9
                          subst e10
                          have hbz : b < V.heap.size := by omega
                          have HTX := Lib.hid (fun (X : Calm V.heap.size V) => HTO.out X.val k1 k2 hk1l hk2l (HB3.out.trans (X.below.mono hwb)))
                          have HRY := Lib.hid (fun (X : Calm V.heap.size V) => HR2.out.step X.below)
                          have HCY := Lib.hid (fun (X : Calm V.heap.size V) => And.intro (((bcell X.below).1 w.heap.size 0 lS).trans HC3.out) (HB3.out.trans (X.below.mono hwb)))
                          cases hgk : g' k2
                          · rw [hgk] at cK
                            go_upto_region 22 with (fail)
                            (refine wp_region_calm (V.heap.size) (by kernel_rfl) (by kernel_rfl) ?_; (repeat (first | go_big_quiet_step ((fail)) | quiet_step ((fail)))); refine wpQuiet_nil ?_; intro _ hw'; obtain ⟨xq, hw''⟩ := hw'; subst hw'')
                            go_wp2
                            go_roundw
                            case rel => exact ⟨k2 + 1, ch, g', by omega, by go_num, rfl, Lib.hid ⟨HRY.out xq, held_skip HP.out.2 (.inl hgk)⟩, Lib.hid (HCY.out xq)⟩
                            case measure => simp [intOf]; omega
                          · rw [hgk] at cK
                            by_cases htt : touches lo hi k1 k2
                            · have hT : touchB (lo k1) (hi k1) (lo k2) (hi k2) = true := by unfold touchB; simp [htt.1, htt.2]
                              have HTY := Lib.hid (fun (X : Calm V.heap.size V) => show Calls Try.prog 79 _ X.val (fun e w' => e = .returned (.bool true) ∧ Below X.val.heap.size X.val w') from by have h := HTX.out X; rw [hT] at h; exact h)
                              have HKC := Lib.hid (HCS.out.closed HSP.out.1 hk1l hfi (HP.out.2.pass.ins k2 hgk) htt)
                              go_upto_region 22 with (fail)
                              (refine wp_region_calm (V.heap.size) (by kernel_rfl) (by kernel_rfl) ?_; (repeat (first | go_big_quiet_step ((go_at_call 79; exact Calls.calm_of (Nat.le_refl _) (HTY.out _))) | quiet_step ((go_at_call 79; exact Calls.calm_of (Nat.le_refl _) (HTY.out _))))); refine wpQuiet_nil ?_; intro _ hw'; obtain ⟨xq, hw''⟩ := hw'; subst hw'')
                              have HRZ := Lib.hid (HRY.out xq)
                              have HCZ := Lib.hid (HCY.out xq)
                              clear HTX HRY HCY HTY cS cK lI lS y0 y1 y2 y3 y4 y5 z0 z1 z2 z3 z4 z5 hbz hwb
                              generalize xq.val = X at *
                              have cI2 := HRZ.out.bi.cell hk1l
                              have fI2 := HRZ.out.bi.frozen k1
                              rw [hgi] at cI2
                              have HXC := Lib.hid (show (X.setCell ⟨ib, k1, none⟩ (.bool true)).cell? ⟨w.heap.size, 0, none⟩ = some (.slice (some ⟨b, off, none⟩) n c) → True from fun _ => trivial)
                              have hibn : w.heap.size ≠ ib := by have := HRZ.out.ib0; rw [HS0.out.2.2] at this; omega
                              have HCV := Lib.hid (And.intro (show (X.setCell ⟨ib, k1, none⟩ (.bool true)).cell? ⟨w.heap.size, 0, none⟩ = some (.slice a n c) from by rw [set_other hibn]; exact HCZ.out.1) (HCZ.out.2.setCell (p := ⟨ib, k1, none⟩) (by have := HRZ.out.ib0; rw [HS0.out.2.2] at this; show w.heap.size ≤ ib; omega) (.bool true)))
                              go_wp2
                              go_roundw
                              case rel => exact ⟨k2 + 1, true, setG g' k1, by omega, by go_num, rfl, Lib.hid ⟨HRZ.out.set hk1l, held_set HP.out.2 hk1l hgi HKC.out⟩, HCV⟩
                              case measure => simp [intOf]; omega
                            · have hT : touchB (lo k1) (hi k1) (lo k2) (hi k2) = false := by
                                unfold touchB
                                rw [Bool.eq_false_iff]
                                intro h
                                simp at h
                                exact htt h
                              have HTY := Lib.hid (fun (X : Calm V.heap.size V) => show Calls Try.prog 79 _ X.val (fun e w' => e = .returned (.bool false) ∧ Below X.val.heap.size X.val w') from by have h := HTX.out X; rw [hT] at h; exact h)
                              go_upto_region 22 with (fail)
                              (refine wp_region_calm (V.heap.size) (by kernel_rfl) (by kernel_rfl) ?_; (repeat (first | go_big_quiet_step ((go_at_call 79; exact Calls.calm_of (Nat.le_refl _) (HTY.out _))) | quiet_step ((go_at_call 79; exact Calls.calm_of (Nat.le_refl _) (HTY.out _))))); refine wpQuiet_nil ?_; intro _ hw'; obtain ⟨xq, hw''⟩ := hw'; subst hw'')
                              go_wp2
                              go_roundw
                              case rel => exact ⟨k2 + 1, ch, g', by omega, by go_num, rfl, Lib.hid ⟨HRY.out xq, held_skip HP.out.2 (.inr htt)⟩, Lib.hid (HCY.out xq)⟩
                              case measure => simp [intOf]; omega
                        · have HFL := Lib.hid (fun (X : Calm wr.heap.size wr) => show Calls Try.prog 78 _ X.val (fun e w' => e = .returned (.bool true) ∧ Below X.val.heap.size X.val w') from by have h := HFI.out X.val k1 hk1l (HGW.out X); rw [hfi] at h; exact h)
                          go_upto_region 20 with (fail)
                          (refine wp_region_calm (wr.heap.size) (by kernel_rfl) (by kernel_rfl) ?_; (repeat (first | go_big_quiet_step ((go_at_call 78; exact Calls.calm_of (Nat.le_refl _) (HFL.out _))) | quiet_step ((go_at_call 78; exact Calls.calm_of (Nat.le_refl _) (HFL.out _))))); refine wpQuiet_nil ?_; intro _ hw'; obtain ⟨xq, hw''⟩ := hw'; subst hw'')
                          go_wp2
                          go_roundw
                          case rel => exact ⟨k1 + 1, ch, g', by omega, by go_num, rfl, Lib.hid ⟨HRX.out xq, held_end HP.out.2 (.inr (.inr hfi))⟩, Lib.hid ⟨HCX.out xq, HGW.out xq⟩⟩
                          case measure => simp [intOf]; omega
                      · rw [hgi] at cI
                        go_upto_region 20 with (fail)
                        (refine wp_region_calm (wr.heap.size) (by kernel_rfl) (by kernel_rfl) ?_; (repeat (first | go_big_quiet_step ((fail)) | quiet_step ((fail)))); refine wpQuiet_nil ?_; intro _ hw'; obtain ⟨xq, hw''⟩ := hw'; subst hw'')
                        go_wp2
                        go_roundw
                        case rel => exact ⟨k1 + 1, ch, g', by omega, by go_num, rfl, Lib.hid ⟨HRX.out xq, held_end HP.out.2 (.inr (.inl hgi))⟩, Lib.hid ⟨HCX.out xq, HGW.out xq⟩⟩
                        case measure => simp [intOf]; omega
                    · have hk2l' : ¬ (k2 : Int) < (i : Int) := by omega
                      go_upto_region 20 with (fail)
                      (refine wp_region_calm (wr.heap.size) (by kernel_rfl) (by kernel_rfl) ?_; (repeat (first | go_big_quiet_step ((fail)) | quiet_step ((fail)))); refine wpQuiet_nil ?_; intro _ hw'; obtain ⟨xq, hw''⟩ := hw'; subst hw'')
                      go_wp2
                      go_roundw
                      case rel => exact ⟨k1 + 1, ch, g', by omega, by go_num, rfl, Lib.hid ⟨HRX.out xq, held_end HP.out.2 (.inl (by omega))⟩, Lib.hid ⟨HCX.out xq, HGW.out xq⟩⟩
                      case measure => simp [intOf]; omega
                · obtain rfl : k1 = i := by omega
                  have hHN := HP.out.1.bi.cnt
                  go_wp2
                  go_roundw
                  case rel => exact ⟨ch, g', rfl, Lib.hid ⟨HP.out.1, HP.out.2.sub f HG.out.2.1, HP.out.2.ins, fun hc => by subst hc; exact pass_whole HCS.out HLH.out HSP.out.1 HP.out.2 HG.out.2.1⟩, HW⟩
                  case measure =>
                    rw [hHN, HCN.out]
                    cases ch with
                    | false =>
                      have := (HP.out.2.no rfl).1
                      rw [this]
                      simp [chV]
                    | true =>
                      have := HP.out.2.yes rfl
                      simp [chV]; omega
end Go.Proofs.Ytgcepjminlapiaa
