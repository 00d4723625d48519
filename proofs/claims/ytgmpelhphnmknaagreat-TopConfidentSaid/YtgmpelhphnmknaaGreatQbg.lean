/- Texts put together: RfF, ToTpD, ToTpE, ToTpP. -/
import Derived.Test.YtgmpelhphnmknaaGreatQas
import Derived.Test.YtgmpelhphnmknaaGreatQal
import Derived.Test.YtgmpelhphnmknaaGreatQbf
import Derived.Test.YtgmpelhphnmknaaGreatQbe
set_option maxRecDepth 100000
set_option maxHeartbeats 8000000
set_option linter.unusedVariables false
set_option linter.unusedSimpArgs false
namespace Go.Proofs.YtgmpelhphnmknaaGreat
open Go.RowKit Go.Shelf
theorem htk_RfF {P : Program} {md : Region.Mode} {Q : Exit → Act → World → Prop} {S : World → Prop} {l : List Oper} {n f : Nat} {listed : Array Bool} {a : Act} {w : World} {v : Value} {oi : Oper} {X : Prop} (i : Nat) (q : X) (hi : l.toArray[i]? = some oi := by rfl) (hB : TkB md l n listed i = true := by kernel_rfl) (hQ : ∀ c a w, Q (.panic c) (a.put oi.dst v) w → Q (.panic c) a w := by exact fun _ _ _ h => h) (hy : YieldsIf P l.toArray S oi v a := by (refine Or.inl ⟨by rfl, ?_⟩; intro w' hSw; (try dsimp only at hSw); obtain ⟨hA, hC⟩ := hSw; obtain ⟨a0, a1⟩ := cr2 hA; have b1 := hC.1; have b2 := hC.2; clear hA hC; (try simp only [hng]); go_simp; (try with_reducible rfl))) (hS : S w := by assumption) (hx : X → headH P md l.toArray Q S n (tailL P md l Q n) f (listed.setIfInBounds i true) (a.put oi.dst v) w := by (intro qq; refine hnm ?_; exact qq)) : headH P md l.toArray Q S n (tailL P md l Q n) (f + 1) listed a w := headH_take hi hB hQ hy hS (hx q)
def RSh (P : List PT) (N : Nat) (lo hi : Int) (w : World) (e : Ending) (w' : World) : Prop :=
 Below w.heap.size w w' ∧
  (((∀ x ∈ chsR P, x.2 ≤ 1000000) ∧ ∃ ca cc wa wc, e = .returned (.tuple #[.agg #[.slice ca (shR (chsR P) N).length cc, .slice wa (shR (chsR P) N).length wc, .int .i64 lo, .int .i64 hi], .bool true]) ∧ w'.ownsRow w.heap.size 3 1 (.slice ca (shR (chsR P) N).length cc) (shR (chsR P) N).length (clC (shR (chsR P) N)) ∧ w'.ownsRow w.heap.size 3 1 (.slice wa (shR (chsR P) N).length wc) (shR (chsR P) N).length (wtC (shR (chsR P) N))) ∨
   ((∃ x ∈ chsR P, 1000000 < x.2) ∧ e = .returned (.tuple #[.agg #[.slice none 0 0, .slice none 0 0, .int .i64 0, .int .i64 0], .bool false])))
theorem shR_len (l : CHs) : ∀ n, (shR l n).length + (l.filter (fun x => decide ((n : Int) ≤ x.1))).length ≤ l.length
 | 0 => by simp [shR]; exact List.length_filter_le _ _
 | n + 1 => by
  have ih := shR_len l n
  rw [shR, List.length_append]
  have h : (l.filter (fun x => decide (x.1 = (n : Int)))).length + (l.filter (fun x => decide (((n + 1 : Nat) : Int) ≤ x.1))).length ≤ (l.filter (fun x => decide ((n : Int) ≤ x.1))).length := by
   clear ih
   induction l with
   | nil => simp
   | cons x t ih =>
    rcases Int.lt_trichotomy x.1 (n : Int) with e | e | e
    ·rw [List.filter_cons_of_neg (by simp; omega), List.filter_cons_of_neg (by simp; omega), List.filter_cons_of_neg (by simp; omega)]; exact ih
    ·rw [List.filter_cons_of_pos (by simp; omega), List.filter_cons_of_neg (by simp; omega), List.filter_cons_of_pos (by simp; omega)]; simp only [List.length_cons]; omega
    ·rw [List.filter_cons_of_neg (by simp; omega), List.filter_cons_of_pos (by simp; omega), List.filter_cons_of_pos (by simp; omega)]; simp only [List.length_cons]; omega
  omega
theorem sh_len (l : CHs) (i c : Nat) : (shR l c ++ (l.take i).filter (fun x => decide (x.1 = (c : Int)))).length ≤ 2 * l.length := by
 have h1 := shR_len l c
 have h2 : ((l.take i).filter (fun x => decide (x.1 = (c : Int)))).length ≤ (l.take i).length := List.length_filter_le _ _
 rw [List.length_take] at h2
 rw [List.length_append]
 omega
theorem flt_take (l : CHs) (c : Int) {i : Nat} (h : i < l.length) : (l.take (i + 1)).filter (fun x => decide (x.1 = c)) = (l.take i).filter (fun x => decide (x.1 = c)) ++ (if (l.getD i ch0).1 = c then [l.getD i ch0] else []) := by
 rw [ch_take l h, List.filter_append]
 congr 1
 by_cases e : (l.getD i ch0).1 = c
 ·rw [if_pos e, List.filter_cons_of_pos (by simp only [decide_eq_true_eq]; exact e)]; rfl
 ·rw [if_neg e, List.filter_cons_of_neg (by simp only [decide_eq_true_eq]; exact e)]; rfl
theorem r8Shine_any (v : VO) (r : RY) (hv : v.Ok) (hr : r.Ok) (m : Nat) (hM : IsM v r m) (ga : Option Addr) (gn gc : Nat) (g : Nat → Int) (lo hi : Int) (w : World) (hgn : gn ≤ maxLen) (hG : Ints w.heap.size w ga gn g) (hgr : grB v gn g = true) :
  Calls Tryz.prog 35 #[v.val, .slice ga gn gc, r.val, .agg #[.int .i64 lo, .int .i64 hi]] w (RSh (prN v r g (m + 1)) (v.nx * v.ny * v.nz).toNat lo hi w) := by
 have HUN := Hd (fun (W : World) (hb : Below w.heap.size w W) => r6Under_any v r hv hr m hM ga gn gc g W hgn ((hG.below hb).up hb.size) hgr)
 have HCE := Hd (fun (W : World) => r6Cells_any v hv W)
 have HOK := Hd (prN_ok hv hr (g := g) (gr_mod hv hgr) (m + 1))
 have HPL := Hd (prN_many hv hr (g := g) hM)
 have hpl := HPL.out
 have hnn : 0 < v.nx * v.ny * v.nz := Int.mul_pos (Int.mul_pos (by have := hv.x; omega) (by have := hv.y; omega)) (by have := hv.z; omega)
 have hnc := hv.cells
 obtain ⟨N, hN⟩ : ∃ N : Nat, v.nx * v.ny * v.nz = (N : Int) := ⟨(v.nx * v.ny * v.nz).toNat, by omega⟩
 rw [hN] at HCE HOK hnc ⊢
 rw [Int.toNat_natCast]
 generalize prN v r g (m + 1) = P at *
 have HNO := Hd (fun (W' : World) (hb : Below w.heap.size w W') (y : CH) (hy : y ∈ chsR P) (hbig : 1000000 < y.2) => show RSh P N lo hi w (.returned (.tuple #[.agg #[.slice none 0 0, .slice none 0 0, .int .i64 0, .int .i64 0], .bool false])) W' from ⟨hb, .inr ⟨⟨y, hy, hbig⟩, rfl⟩⟩)
 have HYES := Hd (fun (W' : World) (hb : Below w.heap.size w W') (hall : ∀ y ∈ chsR P, y.2 ≤ 1000000) (ca : Option Addr) (cc : Nat) (wa : Option Addr) (wc k : Nat) (hk : (shR (chsR P) N).length = k) (h1 : W'.ownsRow w.heap.size 3 1 (.slice ca k cc) k (clC (shR (chsR P) N))) (h2 : W'.ownsRow w.heap.size 3 1 (.slice wa k wc) k (wtC (shR (chsR P) N))) => show RSh P N lo hi w (.returned (.tuple #[.agg #[.slice ca k cc, .slice wa k wc, .int .i64 lo, .int .i64 hi], .bool true])) W' from by
  subst hk
  exact ⟨hb, .inl ⟨hall, ca, cc, wa, wc, rfl, h1, h2⟩⟩)
 generalize RSh P N lo hi w = RES at *
 have HSN := Hd (fun (i c : Nat) => sh_len (chsR P) i c)
 have HLN := Hd (show (chsR P).length = P.length from by simp [chsR])
 have HYI := Hd (fun (i : Nat) (hi : i < P.length) => show (chsR P).getD i ch0 = ((P.getD i pt0).cell, (P.getD i pt0).hi - (P.getD i pt0).lo) ∧ (chsR P).getD i ch0 ∈ chsR P ∧ PtOk (N : Int) (P.getD i pt0) from by
  have h1 : P.getD i pt0 = P[i] := by rw [List.getD_eq_getElem?_getD, List.getElem?_eq_getElem hi]; rfl
  have h2 : (chsR P).getD i ch0 = ((P.getD i pt0).cell, (P.getD i pt0).hi - (P.getD i pt0).lo) := by rw [h1, List.getD_eq_getElem?_getD]; simp [chsR, hi]
  exact ⟨h2, by rw [h2, h1]; exact List.mem_map.2 ⟨P[i], List.getElem_mem _, rfl⟩, by rw [h1]; exact HOK.out _ (List.getElem_mem _)⟩)
 have HKEY := Hd (fun (y : CH) (hy : y ∈ chsR P) => show 0 ≤ y.1 ∧ y.1 < (N : Int) from by
  unfold chsR at hy
  obtain ⟨p, hp, rfl⟩ := List.mem_map.1 hy
  exact (HOK.out p hp).1)
 unfold VO.val at HUN HCE
 unfold RY.val at HUN
 unfold VO.val RY.val
 clear hG hgr hM hv hr HOK
 go_enter Tryz.func35, Tryz.ntmps35; go_upto_region 1 with (fail); (obtain ⟨hVb, hVz, e1, e2, e3, e4⟩ := rk_four w (.cells #[.int .i64 v.nx, .int .i64 v.ny, .int .i64 v.nz, .int .i64 v.size] 23) (.cells #[.int .i64 r.x, .int .i64 r.y, .int .i64 r.z, .int .i64 r.dx, .int .i64 r.dy, .int .i64 r.dz] 33) (.cells #[.int .i64 lo, .int .i64 hi] 28) (.cells #[.slice none 0 0, .slice none 0 0, .int .i64 0, .int .i64 0] 62)); have HB := Lib.hid hVb; have HV := Lib.hid e1; have HRY := Lib.hid e2; have HSB := Lib.hid e3; have HRS := Lib.hid e4; have HVZ := Lib.hid hVz; clear hVb hVz e1 e2 e3 e4; generalize World.alloc (World.alloc (World.alloc (World.alloc w _) _) _) _ = V at *; (try clear v0 v1 v2 v3 s0 s1 s2 s3 s4 s5 p0 p1); obtain ⟨v0, v1, v2, v3⟩ := cr4 HV.out; obtain ⟨s0, s1, s2, s3, s4, s5⟩ := cr6 HRY.out; obtain ⟨p0, p1⟩ := cr2 HSB.out
 go_upto_region 2 with (fail)
 have hbx := rk_below V (.cells #[.slice none 0 0, .slice none 0 0, .int .i64 lo, .int .i64 hi] 62)
 have HBX := Hd (heap_alloc_new V (.cells #[.slice none 0 0, .slice none 0 0, .int .i64 lo, .int .i64 hi] 62))
 have HRL := Hd (show w.heap.size + 1 + 1 + 1 < V.heap.size from (blkL HRS.out))
 (replace HB := Hd (HB.out.trans ((hbx).mono HB.out.size)); replace HV := Hd (blkS HV.out hbx); replace HRY := Hd (blkS HRY.out hbx); replace HSB := Hd (blkS HSB.out hbx); replace HRS := Hd (blkS HRS.out hbx); (try clear v0 v1 v2 v3 s0 s1 s2 s3 s4 s5 p0 p1); obtain ⟨v0, v1, v2, v3⟩ := cr4 HV.out; obtain ⟨s0, s1, s2, s3, s4, s5⟩ := cr6 HRY.out; obtain ⟨p0, p1⟩ := cr2 HSB.out)
 clear hbx
 obtain ⟨x, hx⟩ : ∃ x, V.heap.size = x := ⟨_, rfl⟩
 rw [hx] at HBX HRL
 (try rw [hx])
 clear hx HVZ
 generalize World.alloc V _ = V2 at *
 have hxl := (blkL HBX.out)
 go_upto_region 3 with (go_at_call 78; refine (HUN.out _ HB.out).mono ?_; rintro e w2 ⟨pa, pc, rfl, hown, hb2⟩; have HOW := Lib.hid hown; have HBX2 := Hd ((hb2.block _ hxl).trans HBX.out); have HXL := Hd (Nat.lt_of_lt_of_le hxl hb2.size); (replace HB := Hd (HB.out.trans ((hb2).mono HB.out.size)); replace HV := Hd (blkS HV.out hb2); replace HRY := Hd (blkS HRY.out hb2); replace HSB := Hd (blkS HSB.out hb2); replace HRS := Hd (blkS HRS.out hb2); (try clear v0 v1 v2 v3 s0 s1 s2 s3 s4 s5 p0 p1); obtain ⟨v0, v1, v2, v3⟩ := cr4 HV.out; obtain ⟨s0, s1, s2, s3, s4, s5⟩ := cr6 HRY.out; obtain ⟨p0, p1⟩ := cr2 HSB.out); clear hb2 hown)
 rename World => w2
 have HPB := Hd (fun b (hb : (Value.slice pa P.length pc).ownBlock = some b) => show x < b from Nat.lt_of_lt_of_le hxl (HOW.out.lt b hb).1)
 have HPW := Hd (pcrow_of HOW.out)
 have HU0 := Hd (ShU.start (lo := lo) (hi := hi) HXL.out HBX2.out)
 clear HOW HBX HBX2 hxl HUN v0 v1 v2 v3 s0 s1 s2 s3 s4 s5 p0 p1
 obtain ⟨N0, hN0⟩ : ∃ N0, w2.heap.size = N0 := ⟨_, rfl⟩
 have HN0 := Lib.hid hN0
 rw [hN0] at HU0 HXL
 clear hN0
 obtain ⟨n, hn⟩ : ∃ n, P.length = n := ⟨_, rfl⟩
 have HPN := Lib.hid hn
 rw [hn] at HLN HYI HPB hpl
 (try rw [hn])
 clear hn HPL
 generalize hl : chsR P = l at *
 clear hl
 go_wp2
 go_loopw [12] (fun s12 wr => ∃ c : Nat, c ≤ N ∧ s12 = .int .i64 (c : Int) ∧ Hid ((∀ y ∈ l, y.1 < (c : Int) → y.2 ≤ 1000000) ∧ ShU x N0 lo hi (shR l c) w2 wr)) (fun s12 _ => N - (intOf s12).toNat)
 case atStart => exact ⟨0, Nat.zero_le _, rfl, Lib.hid ⟨fun y hy h => by have := HKEY.out y hy; omega, HU0.out⟩⟩
 case round =>
  clear HU0
  obtain ⟨c, hcN, rfl, HH⟩ := hrel
  have hVr : wr.heap[w.heap.size]? = _ := (HH.out.2.keep w.heap.size (by have := HXL.out; have := HRL.out; omega) (by have := HRL.out; omega)).trans HV.out
  obtain ⟨v0, v1, v2, v3⟩ := cr4 hVr
  clear hVr
  by_cases hlt : c < N
  ·have hlt' : (c : Int) < (N : Int) := by omega
   go_upto_region 6 with (go_at_call 22; refine (HCE.out _).mono ?_; rintro e w3 ⟨rfl, hb3⟩; have HH3 := Hd (And.intro HH.out.1 (HH.out.2.step hb3)); clear hb3)
   clear HH v0 v1 v2 v3
   go_wp2
   go_loopw [13] (fun s13 wr => ∃ i : Nat, i ≤ n ∧ s13 = .int .i64 (i : Int) ∧ Hid ((∀ j, j < i → (l.getD j ch0).1 = (c : Int) → (l.getD j ch0).2 ≤ 1000000) ∧ ShU x N0 lo hi (shR l c ++ (l.take i).filter (fun x => decide (x.1 = (c : Int)))) w2 wr)) (fun s13 _ => n - (intOf s13).toNat)
   case atStart => exact ⟨0, Nat.zero_le _, rfl, Lib.hid ⟨fun j hj => by omega, by simpa using HH3.out.2⟩⟩
   case round =>
    obtain ⟨i, hin, rfl, HI⟩ := hrel
    by_cases hil : i < n
    ·have hil' : (i : Int) < (n : Int) := by omega
     rcases HPW.out with h | ⟨pb, rfl, hpz, hpc⟩
     ·have := HPN.out; omega
     obtain ⟨p0, p1, p2⟩ := hpc i (by have := HPN.out; omega)
     have hpx : x < pb := HPB.out pb rfl
     have hpn : pb < N0 := by have := HN0.out; omega
     have HKP := Hd (fun (S : CHs) (W : World) (h : ShU x N0 lo hi S w2 W) => And.intro ((World.cell?_of_block (a := ⟨pb, i * 3, none⟩) (h.keep pb hpn (by omega))).trans p0) (And.intro ((World.cell?_of_block (a := ⟨pb, i * 3 + 1, none⟩) (h.keep pb hpn (by omega))).trans p1) ((World.cell?_of_block (a := ⟨pb, i * 3 + 2, none⟩) (h.keep pb hpn (by omega))).trans p2)))
     obtain ⟨hy1, hy2, ⟨hy3, hy5⟩, hy6, hy7, hy8⟩ := HYI.out i hil
     have HFT := Hd (flt_take l (c : Int) (i := i) (by have := HLN.out; omega))
     obtain ⟨d0, d1, d2⟩ := HKP.out _ _ HI.out.2
     have HLV := Hd (show (l.getD i ch0).1 = (c : Int) → (l.getD i ch0).2 ≤ 1000000 → ∀ j, j < i + 1 → (l.getD j ch0).1 = (c : Int) → (l.getD j ch0).2 ≤ 1000000 from fun h1 h2 j hj h3 => by
      by_cases e : j = i
      ·subst e; exact h2
      ·exact HI.out.1 j (by omega) h3)
     have HLW := Hd (show ¬ (l.getD i ch0).1 = (c : Int) → ∀ j, j < i + 1 → (l.getD j ch0).1 = (c : Int) → (l.getD j ch0).2 ≤ 1000000 from fun h1 j hj h3 => by
      by_cases e : j = i
      ·subst e; exact absurd h3 h1
      ·exact HI.out.1 j (by omega) h3)
     clear p0 p1 p2 hpc
     rw [hy1] at HFT HLV HLW hy2
     generalize P.getD i pt0 = p at *
     obtain ⟨yc, yl, yh⟩ := p
     dsimp only at hy2 hy3 hy5 hy6 hy7 hy8 d0 d1 d2 HFT HLV HLW hy1
     have HMEM := Lib.hid hy2
     have HSI := Lib.hid HI.out.2
     clear hy1 hy2 HI
     by_cases hyc : yc = (c : Int)
     ·subst hyc
      rw [if_pos rfl] at HFT
      have HA2 := Hd (HLV.out rfl)
      clear HLV HLW
      go_upto_region 10 with (fail)
      generalize hSL : shR l c ++ (l.take i).filter (fun x => decide (x.1 = (c : Int))) = SL at *
      have HSL := Lib.hid hSL
      clear hSL
      go_cut [] from 42 to 64 (fun wx => Hid (ShU x N0 lo hi (SL ++ [((c : Int), yh - yl)]) w2 wx))
      case first =>
       obtain ⟨ca0, cp0, wa0, wp0, hbox, hco, hwo, hdis⟩ := HSI.out.row
       have HSZ := Lib.hid HSI.out.size
       have HEQ := Lib.hid HSI.out.eqs
       have HKE := Lib.hid HSI.out.keep
       obtain ⟨k, hk⟩ : ∃ k, List.length SL = k := ⟨_, rfl⟩
       have HK := Lib.hid hk
       rw [hk] at hbox hco hwo hdis
       clear hk
       have hcl : ∀ b, (Value.slice ca0 k cp0).ownBlock = some b → N0 ≤ b := fun b hb => (hco.lt b hb).1
       have hwl : ∀ b, (Value.slice wa0 k wp0).ownBlock = some b → N0 ≤ b := fun b hb => (hwo.lt b hb).1
       have hxn := HXL.out
       have HBP := Hd (BP.start (W := wr.drew) (own_below hco (show Below wr.heap.size wr wr.drew from (Below.refl _ _).drew)) (own_below hwo (show Below wr.heap.size wr wr.drew from (Below.refl _ _).drew)) hdis HSZ.out)
       have HSS := Hd (fun (W : World) (vc vw : Value) (kc kw : Nat) (cs ws : List Value) (h : BP N0 wr.drew W (.slice ca0 k cp0) (.slice wa0 k wp0) vc vw kc kw cs ws) => show W.heap[x]? = some (.cells #[.slice ca0 k cp0, .slice wa0 k wp0, .int .i64 lo, .int .i64 hi] 62) ∧ (W.cell? ⟨pb, i * 3 + 1, none⟩ = some (.int .i64 yl) ∧ W.cell? ⟨pb, i * 3 + 2, none⟩ = some (.int .i64 yh)) from
        ⟨(h.keep x (show x < wr.heap.size by have := HSZ.out; omega) (fun e => by have := hcl _ e; omega) (fun e => by have := hwl _ e; omega)).trans hbox,
         (World.cell?_of_block (a := ⟨pb, i * 3 + 1, none⟩) (h.keep pb (show pb < wr.heap.size by have := HSZ.out; omega) (fun e => by have := hcl _ e; omega) (fun e => by have := hwl _ e; omega))).trans d1, (World.cell?_of_block (a := ⟨pb, i * 3 + 2, none⟩) (h.keep pb (show pb < wr.heap.size by have := HSZ.out; omega) (fun e => by have := hcl _ e; omega) (fun e => by have := hwl _ e; omega))).trans d2⟩)
       have HNEXT := Hd (fun (W : World) (g1 p1 g2 p2 : Nat) (h : BP N0 wr.drew W (.slice ca0 k cp0) (.slice wa0 k wp0) (.slice (some ⟨g1, 0, none⟩) (k + 1) p1) (.slice (some ⟨g2, 0, none⟩) (k + 1) p2) (k + 1) (k + 1) (clC SL ++ [.int .i64 (c : Int)]) (wtC SL ++ [.int .i64 (yh - yl)])) =>
        show ShU x N0 lo hi (SL ++ [((c : Int), yh - yl)]) w2 ((W.setCell ⟨x, 0, none⟩ (.slice (some ⟨g1, 0, none⟩) (k + 1) p1)).setCell ⟨x, 1, none⟩ (.slice (some ⟨g2, 0, none⟩) (k + 1) p2)) from by
         have h2 := ShU.next (x := x) (N := N0) (lo := lo) (hi := hi) (S := SL) (Wb := w2) (W0 := wr.drew) (y := ((c : Int), yh - yl)) HEQ.out hxn HKE.out (fun b e => by rcases e with e | e; exact hcl b e; exact hwl b e) hbox (by rw [HK.out]; exact h)
         rwa [HK.out] at h2)
       have hkb : k ≤ 86400000004 := by have h1 := HSN.out i c; rw [HSL.out, HK.out] at h1; have := HLN.out; omega
       clear hbox hco hwo hdis hcl hwl HSZ HEQ HKE HSI HKP
       obtain ⟨i1, hi1, hz10, hz11, hz12⟩ := info_parts (show (Tryz.prog.info? 3).map (fun i => (i.zero, i.size, i.bytes)) = some (some (.int .i64 0), 1, 8) by kernel_rfl)
       have hb63 : k + 1 ≤ maxLen := by unfold maxLen; omega
       have hb47 : (k + 1) * 8 ≤ 140737488355328 := by omega
       have hws : IntKind.i64.wrap (yh - yl) = yh - yl := IntWalk.i64_in _ (by omega)
       refine wp_region_any (by kernel_rfl) ?_
       change wpAny _ _ _ _ _ _ _ (World.drew wr)
       clear d0 d1 d2 hnn hN hnc hcN
       generalize World.drew wr = wd at *
       refine any_of_tail 21 21 (fun w' => w'.heap[x]? = some (.cells #[.slice ca0 k cp0, .slice wa0 k wp0, .int .i64 lo, .int .i64 hi] 62) ∧ (w'.cell? ⟨pb, i * 3 + 1, none⟩ = some (.int .i64 yl) ∧ w'.cell? ⟨pb, i * 3 + 2, none⟩ = some (.int .i64 yh))) (by kernel_rfl) (HSS.out _ _ _ _ _ _ _ HBP.out) (fun hS => ?_)
       refine htk_RfF 0 ?_
       refine htk_RfF 1 ?_
       refine htk_RfF 2 ?_
       refine htk_RfF 5 ?_
       refine htk_RfF 6 ?_
       refine htk_RfF 7 ?_
       refine htk_RfF 8 ?_
       refine htk_RfF 9 ?_
       refine htk_RfF 10 ?_
       refine htk_RfF 11 ?_
       refine htk_RfF 12 ?_
       refine htk_RfF 13 ?_
       refine htk_RfF 14 ?_
       refine htk_RfF 15 ?_
       refine htk_RfF 16 ?_
       refine htk_RfF 17 ?_
       clear hws
       refine headH_two 3 18 ?_ ?_
       ·(refine headH_op rfl (fun K hK => ?_); (try simp only [hng]); go_simp; have HP1 := Hd (PB.new HBP.out (c : Int)); replace HBP := Hd (HBP.out.alloc (.cells #[.int .i64 (c : Int)] 3)); (have HSx := Hd (HSS.out _ _ _ _ _ _ _ HBP.out); refine hK.out _ _ HSx.out (fun hS => ?_); clear hK K HSx; refine hnm ?_); generalize World.alloc wd _ = W1 at *)
        refine headH_two 4 18 ?_ ?_
        ·(refine headH_op rfl (fun K hK => ?_); refine step_append_lies _ rfl _ _ 24 rfl N0 3 i1 (.int .i64 0) 1 8 Tryz.underlying24 hi1 hz10 hz11 hz12 rfl (by decide) _ k _ rfl HBP.out.cown _ 1 1 [.int .i64 (c : Int)] rfl rfl (World.news_of_block HP1.out.1) sh_int (by decide) hb63 hb47 (by have h1 := HBP.out.size; have h2 := HBP.out.le; omega) _ rfl ?_; intro g1 p1 W2 hown hgrow hat _; (try replace HP2 := Hd (HP2.out.appC (kc' := k + 1) (p := p1) hgrow hat)); replace HBP := Hd (HBP.out.appC hgrow hown hat); clear hown hgrow hat; (have HSx := Hd (HSS.out _ _ _ _ _ _ _ HBP.out); refine hK.out _ _ HSx.out (fun hS => ?_); clear hK K HSx; refine hnm ?_))
         refine htk_RfF 20 ?_
         refine headH_one 18 ?_
         (refine headH_op rfl (fun K hK => ?_); (try simp only [hng]); go_simp; have HP2 := Hd (PB.new HBP.out (yh - yl)); (try replace HP1 := Hd (HP1.out.alloc (.cells #[.int .i64 (yh - yl)] 3))); replace HBP := Hd (HBP.out.alloc (.cells #[.int .i64 (yh - yl)] 3)); (have HSx := Hd (HSS.out _ _ _ _ _ _ _ HBP.out); refine hK.out _ _ HSx.out (fun hS => ?_); clear hK K HSx; refine hnm ?_); generalize World.alloc W2 _ = W3 at *)
         refine headH_one 19 ?_
         (refine headH_op rfl (fun K hK => ?_); refine step_append_lies _ rfl _ _ 24 rfl N0 3 i1 (.int .i64 0) 1 8 Tryz.underlying24 hi1 hz10 hz11 hz12 rfl (by decide) _ k _ rfl HBP.out.wown _ 1 1 [.int .i64 (yh - yl)] rfl rfl (World.news_of_block HP2.out.1) sh_int (by decide) hb63 hb47 (by have h1 := HBP.out.size; have h2 := HBP.out.le; omega) _ rfl ?_; intro g2 p2 W4 hown hgrow hat _; replace HBP := Hd (HBP.out.appW hgrow hown hat); clear hown hgrow hat; (have HSx := Hd (HSS.out _ _ _ _ _ _ _ HBP.out); refine hK.out _ _ HSx.out (fun hS => ?_); clear hK K HSx; refine hnm ?_))
         (change tailL _ _ _ _ _ _ _ _; refine ⟨by kernel_rfl, ?_⟩; simp only [List.drop_succ_cons, List.drop_zero]; have hbx := (HSS.out _ _ _ _ _ _ _ HBP.out).1; obtain ⟨a0, a1⟩ := cr2 hbx; obtain ⟨f0, f1⟩ := fr2 hbx; have HNX := Hd (HNEXT.out _ _ _ _ _ HBP.out); clear hbx hS HBP; go_wp2_with fail; go_meet; exact HNX)
        ·(refine headH_op rfl (fun K hK => ?_); (try simp only [hng]); go_simp; have HP2 := Hd (PB.new HBP.out (yh - yl)); (try replace HP1 := Hd (HP1.out.alloc (.cells #[.int .i64 (yh - yl)] 3))); replace HBP := Hd (HBP.out.alloc (.cells #[.int .i64 (yh - yl)] 3)); (have HSx := Hd (HSS.out _ _ _ _ _ _ _ HBP.out); refine hK.out _ _ HSx.out (fun hS => ?_); clear hK K HSx; refine hnm ?_); generalize World.alloc W1 _ = W2 at *)
         refine headH_one 4 ?_
         (refine headH_op rfl (fun K hK => ?_); refine step_append_lies _ rfl _ _ 24 rfl N0 3 i1 (.int .i64 0) 1 8 Tryz.underlying24 hi1 hz10 hz11 hz12 rfl (by decide) _ k _ rfl HBP.out.cown _ 1 1 [.int .i64 (c : Int)] rfl rfl (World.news_of_block HP1.out.1) sh_int (by decide) hb63 hb47 (by have h1 := HBP.out.size; have h2 := HBP.out.le; omega) _ rfl ?_; intro g1 p1 W3 hown hgrow hat _; (try replace HP2 := Hd (HP2.out.appC (kc' := k + 1) (p := p1) hgrow hat)); replace HBP := Hd (HBP.out.appC hgrow hown hat); clear hown hgrow hat; (have HSx := Hd (HSS.out _ _ _ _ _ _ _ HBP.out); refine hK.out _ _ HSx.out (fun hS => ?_); clear hK K HSx; refine hnm ?_))
         refine htk_RfF 20 ?_
         refine headH_one 19 ?_
         (refine headH_op rfl (fun K hK => ?_); refine step_append_lies _ rfl _ _ 24 rfl N0 3 i1 (.int .i64 0) 1 8 Tryz.underlying24 hi1 hz10 hz11 hz12 rfl (by decide) _ k _ rfl HBP.out.wown _ 1 1 [.int .i64 (yh - yl)] rfl rfl (World.news_of_block HP2.out.1) sh_int (by decide) hb63 hb47 (by have h1 := HBP.out.size; have h2 := HBP.out.le; omega) _ rfl ?_; intro g2 p2 W4 hown hgrow hat _; replace HBP := Hd (HBP.out.appW hgrow hown hat); clear hown hgrow hat; (have HSx := Hd (HSS.out _ _ _ _ _ _ _ HBP.out); refine hK.out _ _ HSx.out (fun hS => ?_); clear hK K HSx; refine hnm ?_))
         (change tailL _ _ _ _ _ _ _ _; refine ⟨by kernel_rfl, ?_⟩; simp only [List.drop_succ_cons, List.drop_zero]; have hbx := (HSS.out _ _ _ _ _ _ _ HBP.out).1; obtain ⟨a0, a1⟩ := cr2 hbx; obtain ⟨f0, f1⟩ := fr2 hbx; have HNX := Hd (HNEXT.out _ _ _ _ _ HBP.out); clear hbx hS HBP; go_wp2_with fail; go_meet; exact HNX)
       ·(refine headH_op rfl (fun K hK => ?_); (try simp only [hng]); go_simp; have HP2 := Hd (PB.new HBP.out (yh - yl)); (try replace HP1 := Hd (HP1.out.alloc (.cells #[.int .i64 (yh - yl)] 3))); replace HBP := Hd (HBP.out.alloc (.cells #[.int .i64 (yh - yl)] 3)); (have HSx := Hd (HSS.out _ _ _ _ _ _ _ HBP.out); refine hK.out _ _ HSx.out (fun hS => ?_); clear hK K HSx; refine hnm ?_); generalize World.alloc wd _ = W1 at *)
        refine headH_one 3 ?_
        (refine headH_op rfl (fun K hK => ?_); (try simp only [hng]); go_simp; have HP1 := Hd (PB.new HBP.out (c : Int)); replace HP2 := Hd (HP2.out.alloc (.cells #[.int .i64 (c : Int)] 3)); replace HBP := Hd (HBP.out.alloc (.cells #[.int .i64 (c : Int)] 3)); (have HSx := Hd (HSS.out _ _ _ _ _ _ _ HBP.out); refine hK.out _ _ HSx.out (fun hS => ?_); clear hK K HSx; refine hnm ?_); generalize World.alloc W1 _ = W2 at *)
        refine headH_one 4 ?_
        (refine headH_op rfl (fun K hK => ?_); refine step_append_lies _ rfl _ _ 24 rfl N0 3 i1 (.int .i64 0) 1 8 Tryz.underlying24 hi1 hz10 hz11 hz12 rfl (by decide) _ k _ rfl HBP.out.cown _ 1 1 [.int .i64 (c : Int)] rfl rfl (World.news_of_block HP1.out.1) sh_int (by decide) hb63 hb47 (by have h1 := HBP.out.size; have h2 := HBP.out.le; omega) _ rfl ?_; intro g1 p1 W3 hown hgrow hat _; (try replace HP2 := Hd (HP2.out.appC (kc' := k + 1) (p := p1) hgrow hat)); replace HBP := Hd (HBP.out.appC hgrow hown hat); clear hown hgrow hat; (have HSx := Hd (HSS.out _ _ _ _ _ _ _ HBP.out); refine hK.out _ _ HSx.out (fun hS => ?_); clear hK K HSx; refine hnm ?_))
        refine htk_RfF 20 ?_
        refine headH_one 19 ?_
        (refine headH_op rfl (fun K hK => ?_); refine step_append_lies _ rfl _ _ 24 rfl N0 3 i1 (.int .i64 0) 1 8 Tryz.underlying24 hi1 hz10 hz11 hz12 rfl (by decide) _ k _ rfl HBP.out.wown _ 1 1 [.int .i64 (yh - yl)] rfl rfl (World.news_of_block HP2.out.1) sh_int (by decide) hb63 hb47 (by have h1 := HBP.out.size; have h2 := HBP.out.le; omega) _ rfl ?_; intro g2 p2 W4 hown hgrow hat _; replace HBP := Hd (HBP.out.appW hgrow hown hat); clear hown hgrow hat; (have HSx := Hd (HSS.out _ _ _ _ _ _ _ HBP.out); refine hK.out _ _ HSx.out (fun hS => ?_); clear hK K HSx; refine hnm ?_))
        (change tailL _ _ _ _ _ _ _ _; refine ⟨by kernel_rfl, ?_⟩; simp only [List.drop_succ_cons, List.drop_zero]; have hbx := (HSS.out _ _ _ _ _ _ _ HBP.out).1; obtain ⟨a0, a1⟩ := cr2 hbx; obtain ⟨f0, f1⟩ := fr2 hbx; have HNX := Hd (HNEXT.out _ _ _ _ _ HBP.out); clear hbx hS HBP; go_wp2_with fail; go_meet; exact HNX)
      case rest =>
       have HX := Lib.hid hcut.out
       clear hcut
       rename World => wx
       clear d0 d1 d2
       obtain ⟨e0, e1, e2⟩ := HKP.out _ _ HX.out
       have hpw : pb < wx.heap.size := by have := HX.out.size; omega
       go_upto_region 11 with (fail)
       (refine wp_region_calm (wx.heap.size) (by kernel_rfl) (by kernel_rfl) ?_; (repeat (first | go_big_quiet_step (fail) | quiet_step (fail))); refine wpQuiet_nil (wqn ?_); intro xq)
       have HX3 := Hd (HX.out.step (Calm.below xq))
       clear e0 e1 e2 hpw HX HKP HSI
       generalize Calm.val xq = wy at *
       have hxn := HXL.out
       have hrl := HRL.out
       by_cases hbig : 1000000 < yh - yl
       ·have hrb : wy.heap[w.heap.size + 1 + 1 + 1]? = _ := (HX3.out.keep _ (by omega) (by omega)).trans HRS.out
        have HFB := Hd (HX3.out.bel HB.out (by omega))
        have HNN := Hd (fun (W' : World) hb => HNO.out W' hb ((c : Int), yh - yl) HMEM.out hbig)
        clear hnn hN hnc hcN HX3
        (obtain ⟨q0, q1, q2, q3⟩ := cr4 hrb; obtain ⟨f0, f1, f2, f3⟩ := fr4 hrb; have HRB := Lib.hid hrb; clear hrb)
        go_wp2
        obtain ⟨z1, z2, z3⟩ := set4 wy (w.heap.size + 1 + 1 + 1) _ _ _ _ _ (.slice none 0 0) (.slice none 0 0) (.int .i64 0) (.int .i64 0) HRB.out
        have z3 := z3 w HFB.out (by omega)
        clear q0 q1 q2 q3 f0 f1 f2 f3 z2
        generalize World.setCell (World.setCell (World.setCell (World.setCell wy _ _) _ _) _ _) _ _ = wf at *
        obtain ⟨r0, r1, r2, r3⟩ := cr4 z1
        refine bodyPost_ret (v := .tuple #[.agg #[.slice none 0 0, .slice none 0 0, .int .i64 0, .int .i64 0], .bool false]) (by simp [results, Tryz.results35, go_sem, r0, r1, r2, r3]) rfl ?_
        exact HNN.out wf z3
       ·have hbig' : yh - yl ≤ 1000000 := by omega
        have HA3 := Hd (HA2.out hbig')
        have HS2 := Hd (show ShU x N0 lo hi (shR l c ++ (l.take (i + 1)).filter (fun x => decide (x.1 = (c : Int)))) w2 wy from by rw [HFT.out, ← List.append_assoc, HSL.out]; exact HX3.out)
        clear HX3 HFT
        go_wp2
        go_roundw
        case rel => exact ⟨i + 1, by omega, by go_num, Lib.hid ⟨HA3.out, HS2.out⟩⟩
        case measure => simp [intOf]; omega
     ·have hyc' : (yc == (c : Int)) = false := beq_eq_false_iff_ne.2 hyc
      rw [if_neg hyc, List.append_nil] at HFT
      have HA2 := Hd (HLW.out hyc)
      have HS2 := Hd (show ShU x N0 lo hi (shR l c ++ (l.take (i + 1)).filter (fun x => decide (x.1 = (c : Int)))) w2 wr from by rw [HFT.out]; exact HSI.out)
      clear HLV HLW HFT
      go_wp2
      go_roundw
      case rel => exact ⟨i + 1, by omega, by go_num, Lib.hid ⟨HA2.out, HS2.out⟩⟩
      case measure => simp [intOf]; omega
    ·obtain rfl : i = n := by omega
     have hil' : ¬ (i : Int) < (i : Int) := by omega
     have HTK := Hd (show l.take i = l from List.take_of_length_le (by have := HLN.out; omega))
     have HNX := Hd (show ∀ y ∈ l, y.1 < (c : Int) + 1 → y.2 ≤ 1000000 from fun y hy h => by
      by_cases hk : y.1 < (c : Int)
      ·exact HH3.out.1 y hy hk
      ·obtain ⟨j, hj, rfl⟩ := List.mem_iff_getElem.1 hy
       have e : l.getD j ch0 = l[j] := by rw [List.getD_eq_getElem?_getD, List.getElem?_eq_getElem hj]; rfl
       have := HI.out.1 j (by have := HLN.out; omega) (by rw [e]; omega)
       rwa [e] at this)
     have HU2 := Hd (show ShU x N0 lo hi (shR l (c + 1)) w2 wr from by
      have := HI.out.2
      rw [HTK.out] at this
      exact this)
     clear HTK HI HH3
     go_wp2
     go_roundw
     case rel => exact ⟨c + 1, by omega, by go_num, Lib.hid ⟨fun y hy h => HNX.out y hy (by omega), HU2.out⟩⟩
     case measure => simp [intOf]; omega
  ·obtain rfl : c = N := by omega
   have hlt' : ¬ (c : Int) < (c : Int) := by omega
   go_upto_region 13 with (go_at_call 22; refine (HCE.out _).mono ?_; rintro e w3 ⟨rfl, hb3⟩; have HH3 := Hd (And.intro HH.out.1 (HH.out.2.step hb3)); clear hb3)
   rename World => w3
   clear HH v0 v1 v2 v3
   have HALL := Hd (show ∀ y ∈ l, y.2 ≤ 1000000 from fun y hy => HH3.out.1 y hy (HKEY.out y hy).2)
   obtain ⟨ca0, cp0, wa0, wp0, hbox, hco, hwo, hdis⟩ := HH3.out.2.row
   have hrl := HRL.out
   have hxn := HXL.out
   have hrb : w3.heap[w.heap.size + 1 + 1 + 1]? = _ := (HH3.out.2.keep _ (by omega) (by omega)).trans HRS.out
   have HFB := Hd (HH3.out.2.bel HB.out (by omega))
   have HOC := Hd (fun (W' : World) (h : ∀ b, b ≠ w.heap.size + 1 + 1 + 1 → W'.heap[b]? = w3.heap[b]?) => And.intro (own_base (own_keep hco (fun b hb => h b (by have := own_block_le hco hb; omega))) (show w.heap.size ≤ N0 by omega)) (own_base (own_keep hwo (fun b hb => h b (by have := own_block_le hwo hb; omega))) (show w.heap.size ≤ N0 by omega)))
   have HYE := Hd (fun (W' : World) h1 ca cc wa wc k hk h2 h3 => HYES.out W' h1 HALL.out ca cc wa wc k hk h2 h3)
   generalize shR l c = SL at *
   obtain ⟨k, hk⟩ : ∃ k, List.length SL = k := ⟨_, rfl⟩
   have HK := Lib.hid hk
   rw [hk] at hbox HOC
   clear hk hco hwo hdis HH3 hnn hN
   (obtain ⟨q0, q1, q2, q3⟩ := cr4 hrb; obtain ⟨f0, f1, f2, f3⟩ := fr4 hrb; have HRB := Lib.hid hrb; clear hrb)
   obtain ⟨a0, a1, a2, a3⟩ := cr4 hbox
   clear hbox
   go_wp2
   obtain ⟨z1, z2, z3⟩ := set4 w3 (w.heap.size + 1 + 1 + 1) _ _ _ _ _ (.slice ca0 k cp0) (.slice wa0 k wp0) (.int .i64 lo) (.int .i64 hi) HRB.out
   have z3 := z3 w HFB.out (by omega)
   have HO2 := Hd (HOC.out _ z2)
   clear q0 q1 q2 q3 f0 f1 f2 f3 z2 a0 a1 a2 a3
   generalize World.setCell (World.setCell (World.setCell (World.setCell w3 _ _) _ _) _ _) _ _ = wf at *
   obtain ⟨r0, r1, r2, r3⟩ := cr4 z1
   refine bodyPost_ret (v := .tuple #[.agg #[.slice ca0 k cp0, .slice wa0 k wp0, .int .i64 lo, .int .i64 hi], .bool true]) (by simp [results, Tryz.results35, go_sem, r0, r1, r2, r3]) rfl ?_
   exact HYE.out wf z3 ca0 cp0 wa0 wp0 k HK.out HO2.out.1 HO2.out.2
end Go.Proofs.YtgmpelhphnmknaaGreat
namespace Go.Proofs.YtgmpelhphnmknaaGreat
open Go Go.RowKit Go.Shelf
structure LQ where
 r : RY
 bin : Int
 unit : Int
 rate : Int
 less : Int
 more : Int
def LQ.val (k : LQ) : Value := .agg #[.int .i64 k.r.x, .int .i64 k.r.y, .int .i64 k.r.z, .int .i64 k.r.dx, .int .i64 k.r.dy, .int .i64 k.r.dz, .int .i64 k.bin, .int .i64 k.unit, .int .i64 k.rate, .int .i64 k.less, .int .i64 k.more]
structure LQ.ok (k : LQ) (n : Nat) : Prop where
 ray : rayB k.r = true
 bin : 0 ≤ k.bin ∧ k.bin < (n : Int)
 unit : 1 ≤ k.unit ∧ k.unit ≤ 900000
 rate : 0 ≤ k.rate ∧ k.rate ≤ 100
 less : 0 ≤ k.less
 more : 0 ≤ k.more
theorem lkbad_ToTpD {P : Prop} (h : P := by (((unfold VO.val LQ.val SK.cells RY.val at *; go_enter Tryz.func9, Tryz.ntmps9; go_upto_region 1 with (fail); generalize World.alloc (World.alloc (World.alloc w _) _) _ = V at *; obtain ⟨l0, l1, l2, l3, l4, l5⟩ := cr6 HL.out); go_wp2_with ((go_at_call 33; refine (HRA.out _).mono ?_; rintro e W1 ⟨rfl, hb1⟩; have HB1 := Hd (HB.out.trans (hb1.mono HB.out.size)); have HL1 := Hd (keep_at HL.out hb1); have HS1 := Hd (keep_at HS.out hb1); clear hb1; (try clear l0 l1 l2 l3 l4 l5 l6 l7 l8 l9 l10 b1); have l6 := cell_of_row _ _ 6 _ _ _ HL1.out; have l7 := cell_of_row _ _ 7 _ _ _ HL1.out; have l8 := cell_of_row _ _ 8 _ _ _ HL1.out; have l9 := cell_of_row _ _ 9 _ _ _ HL1.out; have l10 := cell_of_row _ _ 10 _ _ _ HL1.out; have b1 := cell_of_row _ _ 1 _ _ _ HS1.out)); exact bodyPost_ret (v := .tuple #[.int .i64 0, .bool false]) (by simp [results, Tryz.results9, go_sem]) rfl ⟨rfl, HB1.out⟩))) : P := h
theorem looks_bad (v : VO) (gv dv : Value) (s : SK) (k : LQ) (w : World) (hk : ¬ k.ok s.bn) :
  Calls Tryz.prog 9 #[v.val, gv, dv, .agg s.cells, k.val] w fun e w' => e = .returned (.tuple #[.int .i64 0, .bool false]) ∧ Below w.heap.size w w' := by
 have HRA := Hd (fun (W : World) => r6Ray_any k.r W)
 obtain ⟨h1, h2, h3, h4⟩ := fx_three w (.cells #[.int .i64 v.nx, .int .i64 v.ny, .int .i64 v.nz, .int .i64 v.size] 23) (.cells s.cells 30) (.cells #[.int .i64 k.r.x, .int .i64 k.r.y, .int .i64 k.r.z, .int .i64 k.r.dx, .int .i64 k.r.dy, .int .i64 k.r.dz, .int .i64 k.bin, .int .i64 k.unit, .int .i64 k.rate, .int .i64 k.less, .int .i64 k.more] 35)
 have HB := Lib.hid h1
 have HS := Lib.hid h3
 have HL := Lib.hid h4
 clear h1 h2 h3 h4
 cases E0 : rayB k.r with
 | false =>
  clear hk
  rw [E0] at HRA
  exact lkbad_ToTpD
 | true =>
  rw [E0] at HRA
  by_cases E1 : 0 ≤ k.bin
  ·skip
   by_cases E2 : k.bin < (s.bn : Int)
   ·skip
    by_cases E3 : 1 ≤ k.unit
    ·skip
     by_cases E4 : k.unit ≤ 900000
     ·skip
      by_cases E5 : 0 ≤ k.rate
      ·skip
       by_cases E6 : k.rate ≤ 100
       ·skip
        by_cases E7 : 0 ≤ k.less
        ·skip
         by_cases E8 : 0 ≤ k.more
         ·skip
          exact absurd ⟨E0, ⟨E1, E2⟩, ⟨E3, E4⟩, ⟨E5, E6⟩, E7, E8⟩ hk
         ·clear hk
          exact lkbad_ToTpD
        ·clear hk
         exact lkbad_ToTpD
       ·clear hk
        exact lkbad_ToTpD
      ·clear hk
       exact lkbad_ToTpD
     ·clear hk
      exact lkbad_ToTpD
    ·clear hk
     exact lkbad_ToTpD
   ·clear hk
    exact lkbad_ToTpD
  ·clear hk
   exact lkbad_ToTpD
end Go.Proofs.YtgmpelhphnmknaaGreat
namespace Go.Proofs.YtgmpelhphnmknaaGreat
open Go Go.RowKit Go.Shelf
def chB (P : List PT) : Bool := (chsR P).all fun y => decide (y.2 ≤ 1000000)
theorem looks_ok (v : VO) (s : SK) (k : LQ) (hv : v.Ok) (m : Nat) (hM : IsM v k.r m) (ga : Option Addr) (gn gc : Nat) (g : Nat → Int) (da : Option Addr) (dn dc : Nat) (d : Nat → Int) (w : World) (hgn : gn ≤ maxLen) (hG : Ints w.heap.size w ga gn g) (hgr : grB v gn g = true) (hD : Ints w.heap.size w da dn d) (hdn : (dn : Int) = v.nx * v.ny * v.nz) (hd : denB dn d = true) (hk : k.ok s.bn) (x : Int) (hx : (opS d (prN v k.r g (m + 1))).tdiv k.unit = x) (hxb : 0 ≤ x ∧ x ≤ 432000000000000) :
  Calls Tryz.prog 9 #[v.val, .slice ga gn gc, .slice da dn dc, .agg s.cells, k.val] w fun e w' => e = .returned (.tuple #[.int .i64 x, .bool (chB (prN v k.r g (m + 1)) && decide (x < 1000000))]) ∧ Below w.heap.size w w' := by
 have HRA := Hd (fun (W : World) => r6Ray_any k.r W)
 have hr := rayB_iff.1 hk.ray
 have HOP := Hd (fun (W : World) (hb : Below w.heap.size w W) => r6Opacity_any v k.r hv hr m hM ga gn gc g da dn dc d W hgn ((hG.below hb).up hb.size) hgr ((hD.below hb).up hb.size) hdn hd)
 have HSH := Hd (fun (W : World) (hb : Below w.heap.size w W) => r8Shine_any v k.r hv hr m hM ga gn gc g 0 0 W hgn ((hG.below hb).up hb.size) hgr)
 obtain ⟨h1, h2, h3, h4⟩ := fx_three w (.cells #[.int .i64 v.nx, .int .i64 v.ny, .int .i64 v.nz, .int .i64 v.size] 23) (.cells s.cells 30) (.cells #[.int .i64 k.r.x, .int .i64 k.r.y, .int .i64 k.r.z, .int .i64 k.r.dx, .int .i64 k.r.dy, .int .i64 k.r.dz, .int .i64 k.bin, .int .i64 k.unit, .int .i64 k.rate, .int .i64 k.less, .int .i64 k.more] 35)
 have HB := Lib.hid h1
 have HVX := Lib.hid h2
 have HS := Lib.hid h3
 have HL := Lib.hid h4
 clear h1 h2 h3 h4
 rw [hk.ray] at HRA
 obtain ⟨E1, E2⟩ := hk.bin
 obtain ⟨E3, E4⟩ := hk.unit
 obtain ⟨E5, E6⟩ := hk.rate
 have E7 := hk.less
 have E8 := hk.more
 have hun : k.unit ≠ 0 := by omega
 have hwx : IntKind.i64.wrap x = x := IntWalk.i64_in _ (by omega)
 have HSB := Hd (fun e W' (h : RSh (prN v k.r g (m + 1)) (v.nx * v.ny * v.nz).toNat 0 0 W' e W') => h)
 clear HSB hG hgr hD hdn hd hv hM hk hr
 generalize prN v k.r g (m + 1) = P at *
 generalize opS d P = o at *
 obtain ⟨cb, hcb⟩ : ∃ cb, chB P = cb := ⟨_, rfl⟩
 rw [hcb]
 have HCB := Lib.hid hcb
 have HCT := Hd (show chB P = true ↔ ∀ y ∈ chsR P, y.2 ≤ 1000000 from by simp [chB])
 clear hcb
 unfold RSh at HSH
 generalize (v.nx * v.ny * v.nz).toNat = N at *
 (unfold VO.val LQ.val SK.cells RY.val at *; go_enter Tryz.func9, Tryz.ntmps9; go_upto_region 1 with (fail); generalize World.alloc (World.alloc (World.alloc w _) _) _ = V at *; obtain ⟨l0, l1, l2, l3, l4, l5⟩ := cr6 HL.out)
 go_upto_region 3 with ((go_at_call 33; refine (HRA.out _).mono ?_; rintro e W1 ⟨rfl, hb1⟩; have HB1 := Hd (HB.out.trans (hb1.mono HB.out.size)); have HL1 := Hd (keep_at HL.out hb1); have HS1 := Hd (keep_at HS.out hb1); have HV1 := Hd (keep_at HVX.out hb1); clear hb1; (try clear l0 l1 l2 l3 l4 l5 l6 l7 l8 l9 l10 b1); have l6 := cell_of_row _ _ 6 _ _ _ HL1.out; have l7 := cell_of_row _ _ 7 _ _ _ HL1.out; have l8 := cell_of_row _ _ 8 _ _ _ HL1.out; have l9 := cell_of_row _ _ 9 _ _ _ HL1.out; have l10 := cell_of_row _ _ 10 _ _ _ HL1.out; have b1 := cell_of_row _ _ 1 _ _ _ HS1.out))
 clear l6 l7 l8 l9 l10 b1
 have hvl := (blkL HV1.out)
 have hll := (blkL HL1.out)
 have v0 := (cell_of_row _ _ 0 _ _ _ (HV1).out).trans (show _ = some (Value.int .i64 v.nx) from rfl); have v1 := (cell_of_row _ _ 1 _ _ _ (HV1).out).trans (show _ = some (Value.int .i64 v.ny) from rfl); have v2 := (cell_of_row _ _ 2 _ _ _ (HV1).out).trans (show _ = some (Value.int .i64 v.nz) from rfl); have v3 := (cell_of_row _ _ 3 _ _ _ (HV1).out).trans (show _ = some (Value.int .i64 v.size) from rfl); have l0 := (cell_of_row _ _ 0 _ _ _ (HL1).out).trans (show _ = some (Value.int .i64 k.r.x) from rfl); have l1 := (cell_of_row _ _ 1 _ _ _ (HL1).out).trans (show _ = some (Value.int .i64 k.r.y) from rfl); have l2 := (cell_of_row _ _ 2 _ _ _ (HL1).out).trans (show _ = some (Value.int .i64 k.r.z) from rfl); have l3 := (cell_of_row _ _ 3 _ _ _ (HL1).out).trans (show _ = some (Value.int .i64 k.r.dx) from rfl); have l4 := (cell_of_row _ _ 4 _ _ _ (HL1).out).trans (show _ = some (Value.int .i64 k.r.dy) from rfl); have l5 := (cell_of_row _ _ 5 _ _ _ (HL1).out).trans (show _ = some (Value.int .i64 k.r.dz) from rfl); have l7 := (cell_of_row _ _ 7 _ _ _ (HL1).out).trans (show _ = some (Value.int .i64 k.unit) from rfl)
 have HOP1 := Hd (fun (W : World) (hb : Below W1.heap.size W1 W) => HOP.out W (HB1.out.trans (hb.mono HB1.out.size)))
 clear HOP
 (refine wp_region_calm_tail (W1.heap.size) 9 (by kernel_rfl) (by kernel_rfl) ?_; simp only [List.take_succ_cons, List.take_zero, List.drop_succ_cons, List.drop_zero]; (repeat (first | go_big_quiet_step ((go_at_call 34; exact Calls.calm_of (Nat.le_refl _) (HOP1.out _ (Calm.below _)))) | quiet_step ((go_at_call 34; exact Calls.calm_of (Nat.le_refl _) (HOP1.out _ (Calm.below _))))));  refine wpQuiet_nil (wqn ?_); intro xq)
 have hq := xq.below
 have HB2 := Hd (HB1.out.trans (hq.mono HB1.out.size))
 have HV2 := Hd (keep_at HV1.out hq)
 have HL2 := Hd (keep_at HL1.out hq)
 clear hq v0 v1 v2 v3 l0 l1 l2 l3 l4 l5 l7
 generalize Calm.val xq = V2 at *
 have v0 := (cell_of_row _ _ 0 _ _ _ (HV2).out).trans (show _ = some (Value.int .i64 v.nx) from rfl); have v1 := (cell_of_row _ _ 1 _ _ _ (HV2).out).trans (show _ = some (Value.int .i64 v.ny) from rfl); have v2 := (cell_of_row _ _ 2 _ _ _ (HV2).out).trans (show _ = some (Value.int .i64 v.nz) from rfl); have v3 := (cell_of_row _ _ 3 _ _ _ (HV2).out).trans (show _ = some (Value.int .i64 v.size) from rfl); have l0 := (cell_of_row _ _ 0 _ _ _ (HL2).out).trans (show _ = some (Value.int .i64 k.r.x) from rfl); have l1 := (cell_of_row _ _ 1 _ _ _ (HL2).out).trans (show _ = some (Value.int .i64 k.r.y) from rfl); have l2 := (cell_of_row _ _ 2 _ _ _ (HL2).out).trans (show _ = some (Value.int .i64 k.r.z) from rfl); have l3 := (cell_of_row _ _ 3 _ _ _ (HL2).out).trans (show _ = some (Value.int .i64 k.r.dx) from rfl); have l4 := (cell_of_row _ _ 4 _ _ _ (HL2).out).trans (show _ = some (Value.int .i64 k.r.dy) from rfl); have l5 := (cell_of_row _ _ 5 _ _ _ (HL2).out).trans (show _ = some (Value.int .i64 k.r.dz) from rfl); have l7 := (cell_of_row _ _ 7 _ _ _ (HL2).out).trans (show _ = some (Value.int .i64 k.unit) from rfl)
 go_upto_region 5 with (go_at_call 35; refine (HSH.out _ HB2.out).mono ?_; rintro e W3 ⟨hb3, hcase⟩; have HB3 := Hd (HB2.out.trans (hb3.mono HB2.out.size)); clear hb3 v0 v1 v2 v3 l0 l1 l2 l3 l4 l5 l7; rcases hcase with ⟨hall, ca, cc, wa, wc, rfl, _, _⟩ | ⟨⟨y, hy1, hy2⟩, rfl⟩)
 ·obtain rfl : cb = true := by rw [← HCB.out]; exact HCT.out.2 hall
  have HB4 := Hd (HB3.out.trans ((al_below W3 (.cells #[.slice ca (shR (chsR P) N).length cc, .slice wa (shR (chsR P) N).length wc, .int .i64 0, .int .i64 0] 62)).mono HB3.out.size))
  generalize World.alloc W3 _ = W4 at *
  go_wp2
  exact bodyPost_ret (v := .tuple #[.int .i64 x, .bool (true && decide (x < 1000000))]) (by simp [results, Tryz.results9, go_sem]) rfl ⟨rfl, HB4.out⟩
 ·obtain rfl : cb = false := by
   rw [← HCB.out]
   cases h : chB P with
   | false => rfl
   | true => exact absurd (HCT.out.1 h y hy1) (by omega)
  have HB4 := Hd (HB3.out.trans ((al_below W3 (.cells #[.slice none 0 0, .slice none 0 0, .int .i64 0, .int .i64 0] 62)).mono HB3.out.size))
  generalize World.alloc W3 _ = W4 at *
  go_wp2
  exact bodyPost_ret (v := .tuple #[.int .i64 x, .bool (false && decide (x < 1000000))]) (by simp [results, Tryz.results9, go_sem]) rfl ⟨rfl, HB4.out⟩
end Go.Proofs.YtgmpelhphnmknaaGreat
namespace Go.Proofs.YtgmpelhphnmknaaGreat
open Go Go.RowKit
theorem sums_hold {o u lo hi x : Int} (h0 : 0 ≤ o) (hu : 1 ≤ u ∧ u ≤ 900000) (hx : o.tdiv u = x) (hlo : lo ≤ x) (hhi : x ≤ hi) (hxb : x < 1000000) : lo * u ≤ o ∧ o ≤ smHi hi u := by
 rw [Int.tdiv_eq_ediv_of_nonneg h0] at hx
 have h1 : x * u ≤ o := by rw [← hx]; exact Int.ediv_mul_le o (by omega)
 have h2 : o < (x + 1) * u := by rw [← hx]; exact Int.lt_ediv_add_one_mul_self o (by omega)
 have h3 : lo * u ≤ x * u := Int.mul_le_mul_of_nonneg_right hlo (by omega)
 refine ⟨Int.le_trans h3 h1, ?_⟩
 unfold smHi
 split
 ·have h4 : (x + 1) * u ≤ 1000000 * u := Int.mul_le_mul_of_nonneg_right (by omega) (by omega)
  omega
 ·have h4 : (x + 1) * u ≤ (hi + 1) * u := Int.mul_le_mul_of_nonneg_right (by omega) (by omega)
  have h5 : (hi + 1) * u = hi * u + u := by rw [Int.add_mul, Int.one_mul]
  omega
theorem ofF_range {lo hi p : Int} (h : 0 ≤ lo ∧ lo ≤ hi) (hp : 0 ≤ p ∧ p ≤ 100) : lo ≤ ofF lo hi p ∧ ofF lo hi p ≤ hi := by
 have h1 := Int.mul_nonneg (show 0 ≤ hi - lo by omega) hp.1
 have h2 := Int.mul_le_mul_of_nonneg_left hp.2 (show 0 ≤ hi - lo by omega)
 unfold ofF
 rw [Int.tdiv_eq_ediv_of_nonneg h1]
 generalize (hi - lo) * p = m at *
 omega
end Go.Proofs.YtgmpelhphnmknaaGreat
