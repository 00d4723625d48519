/- The walk of image.moving: the loop over the images, in each of them the loop over its fields. -/
import Derived.Test.YtkdopjkdokgipaaGreatDoorGjA
import Derived.Test.YtkdopjkdokgipaaGreatDoorImFree
import Derived.Test.YtkdopjkdokgipaaGreatDoorImNode
namespace Go.Proofs.YtkdopjkdokgipaaGreatDoor
open Go.RowKit Go.Shelf
set_option linter.unusedVariables false
set_option linter.unusedSimpArgs false
attribute [local go_sem] Oper.semAt_some
noncomputable def movFrom (k : Nat) : Code := dropSeq k (Tryz.f66.body.getD .skip)
/-- what the loop over the images holds -/
structure MovI (w : World) (ob t n : Nat) (L : Nat → List (List Int)) (i : Nat) (ds : List Nat) (vals : Nat → Value) (W : World) : Prop where
  below : Below w.heap.size w W
  box : W.heap[ob + 1]? = some (.cells #[.slice (some ⟨ob, 0, none⟩) t t] 135)
  row : VR 138 W ob t vals
  done : ∀ j, j < i → FldO ob W n (vals j) (L j)
  left : ∀ j, i ≤ j → vals j = .slice none 0 0
  marks : ∀ D ∈ ds, W.heap[D]? = some (.deferred (some [])) ∧ w.heap.size ≤ D
  nodup : ds.Nodup
  full : ∀ j, j < i → L j ≠ []
set_option maxRecDepth 100000 in
set_option maxHeartbeats 2000000 in
theorem mov_tail (a : Option Addr) (t c : Nat) (im : Nat → IM) (B n : Nat) (w : World) (ob : Nat) (vals0 : Nat → Value) (RES : Ending → World → Prop) (W : World) (u1 u2 u3 u4 u5 u6 u7 u9 u10 u11 u12 u13 u14 u15 u16 u17 u18 u19 u20 u21 u22 u23 u24 u25 u26 u27 u28 u29 u30 u31 u32 u33 u34 u35 u36 u37 u38 u39 u40 u41 u42 u43 u44 u45 u46 u47 u48 u49 u50 u51 u52 u53 u54 u55 u56 u57 u58 u59 u60 u61 u62 u63 u64 u65 u66 u67 u68 u69 u70 u71 u72 u73 u74 u75 u76 u77 u78 u79 u80 u81 u82 u83 u84 u85 u86 u87 : Value)
    (hBw : B ≤ w.heap.size) (hob : w.heap.size ≤ ob) (hn1 : 1 ≤ n) (ht : t ≤ 6) (hI : Imgs B w a t im) (hSh : ∀ i, i < t → Shape (im i).cn (im i).ss (im i).bn (im i).bs) (hcn : ∀ i, i < t → (im i).cn = n) (hlo : ∀ i, i < t → longB (im i).cn (im i).ss 1000 = false)
    (h0 : MovI w ob t n (fun i => (im i).F) 0 [] vals0 W)
    (hR : ∀ w', (∀ i, i < t → (im i).F ≠ []) → Below w.heap.size w w' → AllAt w' ob t n (fun i => (im i).F) → RES (.returned (.tuple #[.slice (some ⟨ob, 0, none⟩) t t, .int .i64 0])) w')
    (hR2 : ∀ w' i, i < t → (im i).F = [] → Below w.heap.size w w' → RES (.returned (.tuple #[.slice none 0 0, .int .i64 5])) w') :
    (movFrom 6).wp Tryz.prog (bodyPostM Fence.wide 6 Tryz.prog Tryz.f66 RES) ⟨#[.slice a t c, u1, u2, u3, u4, u5, u6, u7, .pointer (some ⟨ob + 1, 0, none⟩), u9, u10, u11, u12, u13, u14, u15, u16, u17, u18, u19, u20, u21, u22, u23, u24, u25, u26, u27, u28, u29, u30, u31, u32, u33, u34, u35, u36, u37, u38, u39, u40, u41, u42, u43, u44, u45, u46, u47, u48, u49, u50, u51, u52, u53, u54, u55, u56, u57, u58, u59, u60, u61, u62, u63, u64, u65, u66, u67, u68, u69, u70, u71, u72, u73, u74, u75, u76, u77, u78, u79, u80, u81, u82, u83, u84, u85, u86, u87], []⟩ W := by
  conv => arg 2; whnf
  obtain ⟨i1, hi1, hz10, hz11, hz12⟩ := info_parts info_ints
  have HI := Lib.hid hI
  have HSH := Lib.hid hSh
  have HCN := Lib.hid hcn
  have HLO := Lib.hid hlo
  have HR2 := Lib.hid hR2
  have HR := Lib.hid hR
  have H0 := Lib.hid h0
  clear hI hSh hcn hlo hR hR2 h0
  go_wp2
  refine wp_loop (fun a' w' => ∃ (i : Nat) (ds : List Nat) (vals : Nat → Value) (u11 u12 u13 u60 u61 u62 u63 u64 u65 u66 u67 u68 u69 u70 u71 u72 u73 u74 u75 u76 u77 u78 u79 u80 u81 u82 u83 u84 u85 u86 : Value), i ≤ t ∧ Hid (MovI w ob t n (fun i => (im i).F) i ds vals w') ∧ a' = ⟨#[.slice a t c, u1, u2, u3, u4, u5, u6, u7, .pointer (some ⟨ob + 1, 0, none⟩), u9, u10, u11, u12, u13, u14, u15, u16, u17, u18, u19, u20, u21, u22, u23, u24, u25, u26, u27, u28, u29, u30, u31, u32, u33, u34, u35, u36, u37, u38, u39, u40, u41, u42, u43, u44, u45, u46, u47, u48, u49, u50, u51, u52, u53, u54, u55, u56, .slice a t c, .int .i64 (t : Int), .int .i64 (i : Int), u60, u61, u62, u63, u64, u65, u66, u67, u68, u69, u70, u71, u72, u73, u74, u75, u76, u77, u78, u79, u80, u81, u82, u83, u84, u85, u86, u87], marksOf ds⟩) (fun a' _ => t - (intOf (a'.tmps.getD 59 undef)).toNat) ?start ?round
  case start => exact ⟨0, [], vals0, u11, u12, u13, u60, u61, u62, u63, u64, u65, u66, u67, u68, u69, u70, u71, u72, u73, u74, u75, u76, u77, u78, u79, u80, u81, u82, u83, u84, u85, u86, Nat.zero_le _, H0, rfl⟩
  case round =>
    clear H0
    rintro _ W1 ⟨i, ds, vals, u11, u12, u13, u60, u61, u62, u63, u64, u65, u66, u67, u68, u69, u70, u71, u72, u73, u74, u75, u76, u77, u78, u79, u80, u81, u82, u83, u84, u85, u86, hi, HM, rfl⟩
    have hb := HM.out.below
    have hzr := hb.size
    have hobz := HM.out.row.lt
    have hbxz : ob + 1 < W1.heap.size := (Array.getElem?_eq_some_iff.1 HM.out.box).1
    by_cases hlt : i < t
    · have hlt' : (i : Int) < (t : Int) := by omega
      obtain ⟨xb, xo, rfl, hxB, x0, x1, xS, xM⟩ := (HI.out.below (hb.mono hBw)).get hlt
      have hSh := HSH.out i hlt
      have hcn := HCN.out i hlt
      have hn40 := (HSH.out i hlt).n40
      rw [hcn] at hn40
      have hxz : xb < W1.heap.size := by omega
      have HFE := Lib.hid (show (im i).F = allF (im i).cn (im i).ss (im i).bn (im i).bs from rfl)
      obtain ⟨qca, qcn, qcc, qba, qbn, qbc, qss, qbs, hq⟩ : ∃ qca qcn qcc qba qbn qbc qss qbs, im i = IM.mk qca qcn qcc qba qbn qbc qss qbs := ⟨_, _, _, _, _, _, _, _, rfl⟩
      rw [hq] at x0 x1 xS xM hSh hcn HFE
      dsimp only at x0 x1 xS xM hSh hcn HFE
      have HQ := Lib.hid hq
      clear hq
      subst qcn
      have HSh := Lib.hid hSh
      have hlo := HLO.out i hlt
      rw [HQ.out] at hlo
      have HF1000 := Lib.hid (allF_le hSh hlo)
      clear hlo
      have HXS := Lib.hid xS
      have HXM := Lib.hid xM
      clear hSh xS xM
      go_upto_region 21 with (fail)
      obtain ⟨hVb, hVz, e1, e2⟩ := two_allocs W1 (.cells #[.int .i64 (i : Int)] 3) (.cells #[.slice qca n qcc, .slice qba qbn qbc] 50)
      generalize World.alloc (World.alloc W1 _) _ = V at *
      have HVB := Lib.hid hVb
      have HE1 := Lib.hid e1
      have HE2 := Lib.hid e2
      have d0 : V.cell? ⟨W1.heap.size + 1, 0, none⟩ = some (.slice qca n qcc) := cell_of_row _ _ _ _ _ _ e2
      have d1 : V.cell? ⟨W1.heap.size + 1, 1, none⟩ = some (.slice qba qbn qbc) := cell_of_row _ _ _ _ _ _ e2
      have hbV := hb.trans (hVb.mono hzr)
      clear x0 x1 e1 e2 hVb
      go_wp2_with (first | (go_at_call 52; refine (look_any qca n qcc qba qbn qbc qss qbs V B (by omega) (HXS.out.below (HVB.out.mono (by omega))) (HXM.out.below (HVB.out.mono (by omega))) HSh.out).mono ?_; intro e w2 hlook; obtain ⟨rfl, hb2, hz2, hSr⟩ := look_fields (t := 103) hlook (HXS.out.below (HVB.out.mono (by omega))) (HXM.out.below (HVB.out.mono (by omega))) (by omega); have HSR := Lib.hid hSr; have HB2 := Lib.hid hb2; clear hlook hSr hb2) | (go_at_call 53; refine (fields_any _ _).mono ?_; rintro e w' ⟨rfl, rfl⟩))
      rw [hVz] at HSR
      have hz2' := HB2.out.size
      have hW3 := alloc_below w2 (.cells #[.pointer (some ⟨W1.heap.size + 1 + 1 + 1, 0, none⟩)] 103)
      have hW1V : Below W1.heap.size W1 (w2.alloc (.cells #[.pointer (some ⟨W1.heap.size + 1 + 1 + 1, 0, none⟩)] 103)) := HVB.out.trans ((HB2.out.trans (hW3.mono hz2')).mono (by omega))
      have hb3 : Below w.heap.size w (w2.alloc (.cells #[.pointer (some ⟨W1.heap.size + 1 + 1 + 1, 0, none⟩)] 103)) := hb.trans (hW1V.mono hzr)
      have hz3 : (w2.alloc (.cells #[.pointer (some ⟨W1.heap.size + 1 + 1 + 1, 0, none⟩)] 103)).heap.size = w2.heap.size + 1 := by simp
      have hrow3 := HM.out.row.block (hW1V.block ob hobz)
      have h1V := heap_alloc_new w2 (.cells #[.pointer (some ⟨W1.heap.size + 1 + 1 + 1, 0, none⟩)] 103)
      have HE13 := Lib.hid ((hW3.block _ (by omega)).trans ((HB2.out.block _ (by omega)).trans HE1.out))
      have HSR3 := Lib.hid (HSR.out.weak (R' := fun b => b < w2.heap.size + 1 ∧ b ≠ ob) (fun b hb => by rcases hb with h | h <;> omega))
      have HW1V := Lib.hid hW1V
      clear hW1V hW3 HSR HVB HE1 HE2 d0 d1 HB2 HXS HXM
      generalize World.alloc w2 _ = V3 at *
      generalize w2.heap.size = ib at *
      refine wp_fieldsR (fun b => b < ib + 1 ∧ b ≠ ob) n qss qbn qbs (W1.heap.size + 1 + 1 + 1) ib HSh.out HSR3.out (fun b hb => by rw [hz3]; exact hb.1) ⟨by omega, by omega⟩ (cell_of_row _ _ _ _ _ _ h1V) w hb3 rfl rfl
        (fun b => b = ob) ?hX0
        (fun X xs W => X ob ∧ ∃ v cs, VR 138 W ob t (fun j => if j = i then v else vals j) ∧ v.ownBlock ≠ some ob ∧ GrowX X ob (ib + 1) n v (xs.map FX.f) cs W) (fun cd X xs W => False)
        ?hT (fun _ _ _ _ _ h _ => h) ?h0 (fun x => ⟨#[.slice (some ⟨xb, xo, none⟩) t c, u1, u2, u3, u4, u5, u6, u7, .pointer (some ⟨ob + 1, 0, none⟩), u9, u10, .pointer (some ⟨W1.heap.size, 0, none⟩), .pointer (some ⟨W1.heap.size + 1, 0, none⟩), .slice x.fa n n, u14, u15, u16, u17, u18, u19, u20, u21, u22, u23, u24, u25, u26, u27, u28, u29, u30, u31, u32, u33, u34, u35, u36, u37, u38, u39, u40, u41, u42, u43, u44, u45, u46, u47, u48, u49, u50, u51, u52, u53, u54, u55, u56, .slice (some ⟨xb, xo, none⟩) t c, .int .i64 (t : Int), .int .i64 (i : Int), .bool true, .int .i64 (i : Int), .pointer (some ⟨xb, xo + i * 2, none⟩), .agg #[.slice qca n qcc, .slice qba qbn qbc], .agg #[.slice qca n qcc, .slice qba qbn qbc], .pointer (some ⟨W1.heap.size + 1 + 1 + 1, 0, none⟩), .func (.func 88) #[] #[.pointer (some ⟨ib, 0, none⟩)], .slice x.fa n n, .slice x.sa qbn qbn, u69, u70, u71, u72, u73, u74, u75, u76, u77, u78, u79, u80, u81, u82, u83, u84, u85, u86, u87], []⟩) ?hassign ?hbody ?hdone ?hstop
      case hX0 =>
        obtain ⟨cur, hcur, _, _⟩ := hrow3
        rintro b rfl
        exact ⟨by omega, fun h => h.2 rfl, _, hcur, rfl⟩
      case hT =>
        rintro X xs W W' ⟨h1, v, cs, h2, h3, h4⟩ hk
        exact ⟨h1, v, cs, h2.block (hk _ h1), h3, h4.keep (fun b h => h) (fun b hb _ => hk b hb) h3⟩
      case h0 => exact ⟨rfl, .slice none 0 0, [], hrow3.congr (fun j _ => by by_cases e : j = i; (rw [if_pos e, e]; exact HM.out.left i (Nat.le_refl _)); (rw [if_neg e])), by simp [Value.ownBlock], World.ownsRow_nil _ _ _ _, fun g hg => by simp [Value.ownBlock] at hg, fun k hk => by simp at hk⟩
      case hassign =>
        intro l x W K hK
        gi_wp2
        exact hK
      case hbody =>
        rintro l pre ⟨xf, xfa, xsa⟩ O X W2 hszw hm ⟨hx1, v, cs, hvr, hvo, hgr⟩ hsh hbel hrest hcnt
        dsimp only
        obtain ⟨hxl, hxi, ⟨fb, rfl, hfo, hfz, hfc⟩, hsu⟩ := hsh
        dsimp only at hxl hfc
        have c1 := (hrest.cell (b := ob + 1) (o := 0) ⟨by omega, by omega⟩).trans (cell_of_row _ _ _ _ _ _ ((HW1V.out.block (ob + 1) hbxz).trans HM.out.box))
        have c2 := (hrest.cell (b := W1.heap.size) (o := 0) ⟨by omega, by omega⟩).trans (cell_of_row _ _ _ _ _ _ HE13.out)
        have c3 := hvr.cell hlt
        rw [if_pos rfl] at c3
        have c4 := hvr.frozen i
        have hobW := hvr.lt
        have HCI := Lib.hid (show Ints W2.heap.size W2 (some ⟨fb, 0, none⟩) n (fOf xf) from .inr ⟨fb, 0, rfl, hfz, fun j hj => by rw [Nat.zero_add]; exact hfc j hj⟩)
        have hbo : ∀ b, b < ib + 1 → some b ≠ v.ownBlock := fun b hb e => by have := own_block_le hgr.own e.symm; omega
        have HGR := Lib.hid hgr
        have HVR := Lib.hid hvr
        have HMM := Lib.hid hm
        have hlen := hgr.own.1
        obtain ⟨va, vc, rfl⟩ := own_len hgr.own
        obtain ⟨k, hk⟩ : ∃ k, (pre.map FX.f).length = k := ⟨_, rfl⟩
        rw [hk] at c3
        have HK := Lib.hid hk
        have HC1 := Lib.hid c1
        have HC2 := Lib.hid c2
        have HC3 := Lib.hid c3
        have h200 : pre.length + 1 ≤ 1000 := by have h1 := HF1000.out; rw [List.length_append, List.length_singleton] at hcnt; omega
        clear hrest hbel hsu hxi hfc hfo hgr hvr hm
        gi_upto_region 23 with (fail)
        refine wpIn_any_round (by kernel_rfl) (by kernel_rfl) (fun _ _ h => h) ?_
        change wpAny _ _ _ _ _ _ _ (World.drew W2)
        have c1 : W2.drew.cell? ⟨ob + 1, 0, none⟩ = _ := c1
        have c2 : W2.drew.cell? ⟨W1.heap.size, 0, none⟩ = _ := c2
        have c3 : W2.drew.cell? ⟨ob, i, none⟩ = _ := c3
        have hWd : Below W2.heap.size W2 W2.drew := (Below.refl _ _).drew
        have hzd : W2.drew.heap.size = W2.heap.size := rfl
        have HCI2 := Lib.hid (cloneI_any (some ⟨fb, 0, none⟩) n n (fOf xf) W2.drew (HCI.out) (by omega) (fun h => by cases h))
        have HWD := Lib.hid hWd
        clear hWd HCI
        generalize World.drew W2 = Wd at *
        refine any_of_tail 10 10 (fun w' => w'.cell? ⟨ob + 1, 0, none⟩ = some (.slice (some ⟨ob, 0, none⟩) t t) ∧ w'.cell? ⟨W1.heap.size, 0, none⟩ = some (.int .i64 (i : Int)) ∧ w'.cell? ⟨ob, i, none⟩ = some (.slice va k vc)) (by kernel_rfl) ⟨c1, c2, c3⟩ (fun hS => ?_)
        refine headH_take (i := 0) (v := ?_) rfl (by kernel_rfl) (fun _ _ _ h => h) (Or.inl ⟨by rfl, ?_⟩) (by assumption) ?_; rotate_left; (· intro w' hSw; (try dsimp only at hSw); (try obtain ⟨hSw1, hSw2, hSw3⟩ := hSw); go_simp; (try with_reducible rfl)); (try dsimp only [Act.put]); (try simp only [List.setIfInBounds_toArray, List.set_cons_zero, List.set_cons_succ])
        refine headH_take (i := 1) (v := ?_) rfl (by kernel_rfl) (fun _ _ _ h => h) (Or.inl ⟨by rfl, ?_⟩) (by assumption) ?_; rotate_left; (· intro w' hSw; (try dsimp only at hSw); (try obtain ⟨hSw1, hSw2, hSw3⟩ := hSw); go_simp; (try with_reducible rfl)); (try dsimp only [Act.put]); (try simp only [List.setIfInBounds_toArray, List.set_cons_zero, List.set_cons_succ])
        refine headH_take (i := 2) (v := ?_) rfl (by kernel_rfl) (fun _ _ _ h => h) (Or.inl ⟨by rfl, ?_⟩) (by assumption) ?_; rotate_left; (· intro w' hSw; (try dsimp only at hSw); (try obtain ⟨hSw1, hSw2, hSw3⟩ := hSw); go_simp; (try with_reducible rfl)); (try dsimp only [Act.put]); (try simp only [List.setIfInBounds_toArray, List.set_cons_zero, List.set_cons_succ])
        refine headH_take (i := 3) (v := ?_) rfl (by kernel_rfl) (fun _ _ _ h => h) (Or.inl ⟨by rfl, ?_⟩) (by assumption) ?_; rotate_left; (· intro w' hSw; (try dsimp only at hSw); (try obtain ⟨hSw1, hSw2, hSw3⟩ := hSw); go_simp; (try with_reducible rfl)); (try dsimp only [Act.put]); (try simp only [List.setIfInBounds_toArray, List.set_cons_zero, List.set_cons_succ])
        refine headH_take (i := 4) (v := ?_) rfl (by kernel_rfl) (fun _ _ _ h => h) (Or.inl ⟨by rfl, ?_⟩) (by assumption) ?_; rotate_left; (· intro w' hSw; (try dsimp only at hSw); (try obtain ⟨hSw1, hSw2, hSw3⟩ := hSw); go_simp; (try with_reducible rfl)); (try dsimp only [Act.put]); (try simp only [List.setIfInBounds_toArray, List.set_cons_zero, List.set_cons_succ])
        refine headH_take (i := 5) (v := ?_) rfl (by kernel_rfl) (fun _ _ _ h => h) (Or.inl ⟨by rfl, ?_⟩) (by assumption) ?_; rotate_left; (· intro w' hSw; (try dsimp only at hSw); (try obtain ⟨hSw1, hSw2, hSw3⟩ := hSw); go_simp; (try with_reducible rfl)); (try dsimp only [Act.put]); (try simp only [List.setIfInBounds_toArray, List.set_cons_zero, List.set_cons_succ])
        refine headH_take (i := 6) (v := ?_) rfl (by kernel_rfl) (fun _ _ _ h => h) (Or.inl ⟨by rfl, ?_⟩) (by assumption) ?_; rotate_left; (· intro w' hSw; (try dsimp only at hSw); (try obtain ⟨hSw1, hSw2, hSw3⟩ := hSw); go_simp; (try with_reducible rfl)); (try dsimp only [Act.put]); (try simp only [List.setIfInBounds_toArray, List.set_cons_zero, List.set_cons_succ])
        refine headH_all (rs := [7]) (by kernel_rfl) (by simp) (by kernel_rfl) ?_; intro i0 hi0; simp only [List.mem_cons, List.not_mem_nil, or_false] at hi0
        subst hi0
        refine headH_op rfl (fun K hK => ?_)
        go_simp
        refine HCI2.out.mono ?_
        rintro e W3 ⟨ga, gc, rfl, hown3, hb3⟩
        obtain ⟨gA, rfl, hgA1, hgA2⟩ := own_at hown3 hn1
        dsimp only
        have HB3 := Lib.hid (HWD.out.trans (hb3.mono (by rw [hzd]; exact Nat.le_refl _)))
        have HO3 := Lib.hid (hzd ▸ hown3)
        have hgA3 : W2.heap.size ≤ gA := hzd ▸ hgA1
        have hz3' := HB3.out.size
        clear hown3 hb3 HCI2 HWD hgA1
        have c1 := ((bcell HB3.out).1 (ob + 1) 0 (by omega)).trans HC1.out
        have c2 := ((bcell HB3.out).1 W1.heap.size 0 (by omega)).trans HC2.out
        have c3 := ((bcell HB3.out).1 ob i (by omega)).trans HC3.out
        refine hK.out _ _ ⟨c1, c2, c3⟩ (fun hS => ?_)
        clear hK K
        (try dsimp only [Act.put]); (try simp only [List.setIfInBounds_toArray, List.set_cons_zero, List.set_cons_succ])
        have hb4 := alloc_below W3 (.cells #[.slice (some ⟨gA, 0, none⟩) n gc] 24)
        have hz4 : (W3.alloc (.cells #[.slice (some ⟨gA, 0, none⟩) n gc] 24)).heap.size = W3.heap.size + 1 := by simp
        have hpl : k + 1 ≤ 1000 := by rw [← HK.out, List.length_map]; exact h200
        have hb63 : k + 1 ≤ maxLen := by unfold maxLen; omega
        have hb47 : (k + 1) * 24 ≤ 140737488355328 := by omega
        refine headH_all (rs := [8]) (by kernel_rfl) (by simp) (by kernel_rfl) ?_; intro i0 hi0; simp only [List.mem_cons, List.not_mem_nil, or_false] at hi0
        subst hi0
        refine headH_op rfl (fun K hK => ?_)
        go_simp
        have c1 := ((bcell hb4).1 (ob + 1) 0 (by omega)).trans c1
        have c2 := ((bcell hb4).1 W1.heap.size 0 (by omega)).trans c2
        have c3 := ((bcell hb4).1 ob i (by omega)).trans c3
        have HOW4 := Lib.hid (own_below HGR.out.own (show Below W2.heap.size W2 (W3.alloc (.cells #[.slice (some ⟨gA, 0, none⟩) n gc] 24)) from HB3.out.trans (hb4.mono hz3')))
        rw [HK.out] at HOW4
        have HNW := Lib.hid (World.news_of_block (heap_alloc_new W3 (.cells #[.slice (some ⟨gA, 0, none⟩) n gc] 24)))
        refine hK.out _ _ ⟨c1, c2, c3⟩ (fun hS => ?_)
        clear hK K
        (try dsimp only [Act.put]); (try simp only [List.setIfInBounds_toArray, List.set_cons_zero, List.set_cons_succ])
        refine headH_all (rs := [9]) (by kernel_rfl) (by simp) (by kernel_rfl) ?_; intro i0 hi0; simp only [List.mem_cons, List.not_mem_nil, or_false] at hi0
        subst hi0
        refine headH_op rfl (fun K hK => ?_)
        refine step_append_lies _ rfl _ _ 138 rfl (ib + 1) 24 i1 (.slice none 0 0) 1 24 Tryz.underlying138 hi1 hz10 hz11 hz12 rfl (by decide) (.slice va k vc) k cs rfl HOW4.out ⟨W3.heap.size, 0, none⟩ 1 1 [.slice (some ⟨gA, 0, none⟩) n gc] rfl rfl HNW.out one_slice (by decide) hb63 hb47 (by omega) _ rfl ?_
        intro g1 p1 W5 hown5 hgrow5 hat5 hlt5
        have hz5 := hgrow5.size
        have hvok : (Value.slice va k vc).ownBlock ≠ some ob := by rw [← HK.out]; exact hvo
        have hbok : ∀ b, b < ib + 1 → some b ≠ (Value.slice va k vc).ownBlock := by rw [← HK.out]; exact hbo
        have c1 := (World.cell?_of_block (a := ⟨ob + 1, 0, none⟩) (hgrow5.block (ob + 1) (by omega) (hbok (ob + 1) (by omega)))).trans c1
        have c2 := (World.cell?_of_block (a := ⟨W1.heap.size, 0, none⟩) (hgrow5.block W1.heap.size (by omega) (hbok W1.heap.size (by omega)))).trans c2
        have hob5 := hgrow5.block ob (by omega) (Ne.symm hvok)
        have c3 := (World.cell?_of_block (a := ⟨ob, i, none⟩) hob5).trans c3
        have f3 : W5.frozen? ⟨ob, i, none⟩ = false := (World.frozen?_of_block (hob5.trans ((hb4.block ob (by omega)).trans (HB3.out.block ob hobW)))).trans c4
        clear hk
        have hk2 := HK.out
        rw [← hk2] at hown5 hgrow5 hat5
        have HFIN := Lib.hid (GrowX.push HMM.out hx1 HVR.out hlt hvo HGR.out HB3.out HO3.out hgA3 hgA2 hown5 hgrow5 hat5)
        clear hown5 hgrow5 hat5 HOW4 HNW hb4 HVR HGR HMM HB3 HO3 HC1 HC2 HC3 c4 hob5
        refine hK.out _ _ ⟨c1, c2, c3⟩ (fun hS => ?_)
        clear hK K
        (try dsimp only [Act.put]); (try simp only [List.setIfInBounds_toArray, List.set_cons_zero, List.set_cons_succ])
        change tailL _ _ _ _ _ _ _ _
        refine ⟨by kernel_rfl, ?_⟩
        simp only [List.drop_succ_cons, List.drop_zero]
        go_wp2
        rw [HK.out] at HFIN
        obtain ⟨X', h1, h2, h3, h4, h5⟩ := HFIN.out
        exact ⟨X', h1, h2, _, _, h3.congr (fun j _ => by by_cases e : j = i; (rw [if_pos e, if_pos e]); (rw [if_neg e, if_neg e, if_neg e])), h4, by rw [List.map_append, List.map_singleton]; exact h5⟩
      case hdone =>
        rintro D xs X W2 hD hDl hDX hxs ⟨hx1, v, cs, hvr, hvo, hgr⟩ hbel hrest hDD
        rw [hxs] at hgr
        have HFI := Lib.hid (show (im i).F = allF n qss qbn qbs from by rw [HQ.out]; rfl)
        have HNX := Lib.hid (fun (hful : (im i).F ≠ []) => show MovI w ob t n (fun i => (im i).F) (i + 1) (D :: ds) (fun j => if j = i then v else vals j) W2 from by
          have hk : ∀ b, b < W1.heap.size → b ≠ ob → W2.heap[b]? = W1.heap[b]? := fun b h1 h2 => (hrest b ⟨by have := HW1V.out.size; omega, h2⟩).trans (HW1V.out.block b h1)
          refine ⟨hbel, (hk (ob + 1) hbxz (by omega)).trans HM.out.box, hvr, fun j hj => ?_, fun j hj => ?_, fun D' hD' => ?_, List.nodup_cons.2 ⟨fun hD' => ?_, HM.out.nodup⟩, fun j hj => ?_⟩
          · by_cases e : j = i
            · subst e
              show FldO ob W2 n (if j = j then v else vals j) (im j).F
              rw [if_pos rfl, HQ.out]
              exact hgr.fldO hvo
            · show FldO ob W2 n (if j = i then v else vals j) (im j).F
              rw [if_neg e]
              exact (HM.out.done j (by omega)).rests hk (by have := HW1V.out.size; omega)
          · show (if j = i then v else vals j) = _
            rw [if_neg (by omega)]
            exact HM.out.left j (by omega)
          · rcases List.mem_cons.1 hD' with e | hD'
            · subst e
              exact ⟨hDD, by omega⟩
            · obtain ⟨h1, h2⟩ := HM.out.marks D' hD'
              have hlt := (Array.getElem?_eq_some_iff.1 h1).1
              refine ⟨(hk D' hlt (fun e => ?_)).trans h1, h2⟩
              obtain ⟨cur, hcur, _⟩ := HM.out.row
              rw [e, hcur] at h1
              cases h1
          · have h1 := (Array.getElem?_eq_some_iff.1 (HM.out.marks D hD').1).1
            have := HW1V.out.size
            omega
          · by_cases e : j = i
            · subst e; exact hful
            · exact HM.out.full j (by omega))
        have HMK := Lib.hid (show (∀ D' ∈ D :: ds, W2.heap[D']? = some (.deferred (some [])) ∧ w.heap.size ≤ D') ∧ (D :: ds).Nodup from by
          have hk : ∀ b, b < W1.heap.size → b ≠ ob → W2.heap[b]? = W1.heap[b]? := fun b h1 h2 => (hrest b ⟨by have := HW1V.out.size; omega, h2⟩).trans (HW1V.out.block b h1)
          refine ⟨fun D' hD' => ?_, List.nodup_cons.2 ⟨fun hD' => ?_, HM.out.nodup⟩⟩
          · rcases List.mem_cons.1 hD' with e | hD'
            · subst e
              exact ⟨hDD, by omega⟩
            · obtain ⟨h1, h2⟩ := HM.out.marks D' hD'
              have hlt := (Array.getElem?_eq_some_iff.1 h1).1
              refine ⟨(hk D' hlt (fun e => ?_)).trans h1, h2⟩
              obtain ⟨cur, hcur, _⟩ := HM.out.row
              rw [e, hcur] at h1
              cases h1
          · have h1 := (Array.getElem?_eq_some_iff.1 (HM.out.marks D hD').1).1
            have := HW1V.out.size
            omega)
        have c1 := (hrest.cell (b := ob + 1) (o := 0) ⟨by omega, by omega⟩).trans (cell_of_row _ _ _ _ _ _ ((HW1V.out.block (ob + 1) hbxz).trans HM.out.box))
        have c2 := (hrest.cell (b := W1.heap.size) (o := 0) ⟨by omega, by omega⟩).trans (cell_of_row _ _ _ _ _ _ HE13.out)
        have c3 := hvr.cell hlt
        rw [if_pos rfl] at c3
        obtain ⟨va, vc, rfl⟩ := own_len hgr.own
        by_cases hful : (im i).F = []
        · have HE := Lib.hid (fun w' hb => HR2.out w' i hlt hful hb)
          have hkl : (allF n qss qbn qbs).length = 0 := by rw [← HFI.out, hful]; rfl
          rw [hkl] at c3
          have HBW := Lib.hid hbel
          clear hvr hgr hxs hrest hbel hDD hDX HM HFE HNX HR HR2 hful hkl
          go_wp2
          refine leave_marks (v := .tuple #[.slice none 0 0, .int .i64 5]) (D :: ds) W2 HMK.out.2 (fun D' hD' => (HMK.out.1 D' hD').1) (fun W' h1 h2 h3 h4 h5 => ⟨by exact results_tmp2 (t := 4) (u := 5) rfl _ _ _, HE.out W' ⟨h1.trans HBW.out.os, h2.trans HBW.out.tape, h3.trans HBW.out.output, by have := HBW.out.size; omega, fun b hbl => (h5 b (fun hd => by have := (HMK.out.1 b hd).2; omega)).trans (HBW.out.block b hbl)⟩⟩)
        · have HNX := Lib.hid (HNX.out hful)
          have hzl : (((allF n qss qbn qbs).length : Int) == 0) = false := by rw [beq_eq_false_iff_ne]; intro e; exact hful (HFI.out.trans (List.eq_nil_of_length_eq_zero (by omega)))
          generalize (allF n qss qbn qbs).length = kl at *
          clear hvr hgr hxs hrest hbel hDD hDX HM HFE HMK
          go_wp2
          exact ⟨⟨i + 1, D :: ds, _, _, _, _, _, _, _, _, _, _, _, _, _, _, _, _, _, _, _, _, _, _, _, _, _, _, _, _, _, _, _, by omega, HNX, rfl⟩, by simp [intOf]; omega⟩
      case hstop =>
        rintro D cd pre X W hD hDl hDX hk h
        exact h.elim
    · obtain rfl : t = i := by omega
      have hlt' : ¬ (t : Int) < (t : Int) := by omega
      have c1 : W1.cell? ⟨ob + 1, 0, none⟩ = some (.slice (some ⟨ob, 0, none⟩) t t) := cell_of_row _ _ _ _ _ _ HM.out.box
      go_wp2
      have hnd : ∀ b u, W1.heap[b]? = some u → u.isCells = true → b ∉ ds := fun b u h1 h2 h3 => by
        have h4 := (HM.out.marks b h3).1
        rw [h1] at h4
        injection h4 with h4
        rw [h4] at h2
        cases h2
      refine leave_marks (v := .tuple #[.slice (some ⟨ob, 0, none⟩) t t, .int .i64 0]) ds W1 HM.out.nodup (fun D hD => (HM.out.marks D hD).1) (fun W' h1 h2 h3 h4 h5 => ⟨by exact results_tmp2 (t := 4) (u := 5) rfl _ _ _, HR.out W' HM.out.full ⟨h1.trans hb.os, h2.trans hb.tape, h3.trans hb.output, by omega, fun b hbl => (h5 b (fun hd => by have := (HM.out.marks b hd).2; omega)).trans (hb.block b hbl)⟩ ⟨vals, ?_, fun j hj => (HM.out.done j hj).keeps (fun b _ _ hc => ?_) (by omega)⟩⟩)
      · obtain ⟨cur, hcur, _⟩ := id HM.out.row
        exact HM.out.row.block (h5 ob (hnd ob _ hcur rfl))
      · obtain ⟨u, k1, k2⟩ := hc
        exact h5 b (hnd b u k1 k2)
end Go.Proofs.YtkdopjkdokgipaaGreatDoor
