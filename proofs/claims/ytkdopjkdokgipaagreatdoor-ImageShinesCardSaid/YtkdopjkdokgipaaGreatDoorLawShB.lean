/- ImageShines, where it applies. -/
import Derived.Test.YtkdopjkdokgipaaGreatDoorGyC
namespace Go.Proofs.YtkdopjkdokgipaaGreatDoor
open Go.RowKit Go.Shelf
set_option linter.unusedVariables false
set_option linter.unusedSimpArgs false
theorem isM_ex {v : VO} {r : RY} (hv : v.Ok) (hr : r.Ok) : ∃ m, IsM v r m := by
  false_or_by_contra
  rename_i hno
  have h : ∀ j, ∀ i, i ≤ j → 0 ≤ atF v r i := fun j => by
    induction j with
    | zero =>
      intro i hi
      have : i = 0 := by omega
      subst this
      exact Int.le_refl 0
    | succ j ih =>
      intro i hi
      by_cases e : i ≤ j
      · exact ih i e
      · have : i = j + 1 := by omega
        subst this
        show 0 ≤ nxF v r (atF v r j)
        false_or_by_contra
        exact hno ⟨j, ih, by omega⟩
  have h1 := atF_up hv hr 43200000001 (fun i hi => h _ i hi)
  have h2 := (atF_low hv hr 43200000001).2
  omega
theorem prN_forty {v : VO} {r : RY} (hv : v.Ok) (hr : r.Ok) {m : Nat} (hM : IsM v r m) (g : Nat → Int) : (prN v r g (m + 1)).length ≤ 40 := by
  have h1 := prN_len v r g (m + 1)
  have h2 := crR_len hv hr 3
  rw [crR_eq hM, acL_len] at h2
  omega
set_option maxRecDepth 100000 in
set_option maxHeartbeats 4000000 in
theorem Shn_ok {w : World} {B : Nat} {ga : Option Addr} {gn : Nat} {g : Nat → Int} {da : Option Addr} {dn : Nat} {d : Nat → Int} (v : VO) (gc dc : Nat) (r : RY) (s : SV) (h : ShIn w B ga gn g da dn d) (hg : gn ≤ 200) (hd : dn ≤ 700) (hok : rkOk v r gn g = true) (hsp : spanB ⟨s.lo, s.hi⟩ 1000000000000 = true) :
    Calls Tryz.prog 3 #[v.val, .slice ga gn gc, r.val, .agg #[.int .i64 s.lo, .int .i64 s.hi], .slice da dn dc] w fun e w' => e = .returned (.bool true) ∧ Below w.heap.size w w' := by
  obtain ⟨lo, hi⟩ := s
  dsimp only at hsp ⊢
  have hk := hok
  unfold rkOk at hk
  rw [Bool.and_eq_true, Bool.and_eq_true] at hk
  obtain ⟨⟨h1, h2⟩, h3⟩ := hk
  have hv := volB_iff.1 h1
  have hr := rayB_iff.1 h2
  obtain ⟨m, hM⟩ := isM_ex hv hr
  have hsp2 := hsp
  unfold spanB at hsp2
  rw [Bool.and_eq_true, inB_iff] at hsp2
  simp only [decide_eq_true_eq] at hsp2
  have n1 : ¬ lo < 0 := by omega
  have n2 : ¬ hi < lo := by omega
  have n3 : ¬ 1000000000000 < hi := by omega
  clear hsp2
  have HKN := Lib.hid (fun (W : World) (hb : Below w.heap.size w W) => h.known hb)
  have HVO := Lib.hid (fun (W : World) => r6Volume_any v W)
  have HRA := Lib.hid (fun (W : World) => r6Ray_any r W)
  have HGR := Lib.hid (fun (W : World) (hb : Below w.heap.size w W) => r6Ground_any v hv ga gn gc g W h.gl (h.G hb))
  have HDE := Lib.hid (fun (W : World) (hb : Below w.heap.size w W) => r6Dense_any v hv da dn dc d W h.dl (h.D hb))
  have hR8 : ∀ (W : World) (hb : Below w.heap.size w W), _ := fun W hb => r8Shine_any v r hv hr m hM ga gn gc g lo hi W h.gl (h.G hb) h3
  have hSH : ∀ (W : World) (hb : Below w.heap.size w W), _ := fun W hb => Shine_ok shSort v r ga gn gc g lo hi W h.gl (h.G hb) hok hsp
  have hop : ∀ (W : World) (hb : Below w.heap.size w W), (dn : Int) = v.nx * v.ny * v.nz → denB dn d = true → _ := fun W hb e1 e2 => Opacity_ok v r ga gn gc g da dn dc d W h.gl (h.G hb) (h.D hb) hok e1 e2
  have hg' : ¬ (200 : Int) < (gn : Int) := by omega
  have hd' : ¬ (700 : Int) < (dn : Int) := by omega
  rw [h1] at HVO
  rw [h2] at HRA
  rw [h3] at HGR
  have hap := chsR_apart (prN_apart hv hr hM g (m + 1) (Nat.le_refl _))
  have hcb : ∀ x ∈ chsR (prN v r g (m + 1)), 0 ≤ x.1 ∧ x.1 < (((v.nx * v.ny * v.nz).toNat : Nat) : Int) := fun x hx => by
    unfold chsR at hx
    obtain ⟨p, hp, rfl⟩ := List.mem_map.1 hx
    have := prN_cell hv hr hp
    exact ⟨this.1, by dsimp only; omega⟩
  have hwt : ∀ x ∈ chsR (prN v r g (m + 1)), 0 ≤ x.2 := fun x hx => by
    unfold chsR at hx
    obtain ⟨p, hp, rfl⟩ := List.mem_map.1 hx
    have := (prN_ok hv hr (g := g) (gr_mod hv h3) (m + 1) p hp).2.1
    dsimp only
    omega
  have hlen : (chsR (prN v r g (m + 1))).length ≤ 40 := by
    have := prN_forty hv hr hM g
    simpa [chsR] using this
  by_cases hw : ∀ x ∈ chsR (prN v r g (m + 1)), x.2 ≤ 1000000
  · obtain ⟨R, hR⟩ : ∃ R, shR (chsR (prN v r g (m + 1))) (v.nx * v.ny * v.nz).toNat = R := ⟨_, rfl⟩
    obtain ⟨n, hn⟩ : ∃ n, List.length R = n := ⟨_, rfl⟩
    have HSH := Lib.hid (fun (W : World) (hb : Below w.heap.size w W) => (hSH W hb).mono (R' := fun e w' => ∃ ca cc wa wc, e = .returned (.tuple #[.agg #[.slice ca n cc, .slice wa n wc, .int .i64 lo, .int .i64 hi], .int .i64 0]) ∧ (Ints w'.heap.size w' ca n (fun k => (List.getD R k ch0).1) ∧ Ints w'.heap.size w' wa n (fun k => (List.getD R k ch0).2)) ∧ R.Perm (chsR (prN v r g (m + 1))) ∧ Below W.heap.size W w') (fun e w' ⟨m', S, hM', hP, hS, hb', hres⟩ => by
      have em := isM_eq hM' hM
      subst em
      have hSR : shR (chsR (prN v r g (m' + 1))) (v.nx * v.ny * v.nz).toNat = S := shR_eq hP hS hap hcb
      rw [hR] at hSR
      subst hSR
      subst hn
      rcases hres with ⟨hle, ca, cc, wa, wc, rfl, ho1, ho2⟩ | ⟨⟨y, hy, hbig⟩, _⟩
      · exact ⟨ca, cc, wa, wc, rfl, ⟨own_cl ho1, own_wt ho2⟩, hP, hb'⟩
      · have := hw y (hP.subset hy)
        omega))
    have HR8 := Lib.hid (fun (W : World) (hb : Below w.heap.size w W) => (hR8 W hb).mono (R' := fun e w' => ∃ ca cc wa wc, e = .returned (.tuple #[.agg #[.slice ca n cc, .slice wa n wc, .int .i64 lo, .int .i64 hi], .bool true]) ∧ (w'.ownsRow W.heap.size 3 1 (.slice ca n cc) n (clC R) ∧ w'.ownsRow W.heap.size 3 1 (.slice wa n wc) n (wtC R)) ∧ Below W.heap.size W w') (fun e w' ⟨hb', hres⟩ => by
      rcases hres with ⟨hle, ca, cc, wa, wc, rfl, ho1, ho2⟩ | ⟨⟨y, hy, hbig⟩, _⟩
      · rw [hR] at ho1 ho2 ⊢
        subst hn
        exact ⟨ca, cc, wa, wc, rfl, ⟨ho1, ho2⟩, hb'⟩
      · have := hw y hy
        omega))
    have HIN := Lib.hid (fun (W : World) (a : Option Addr) (c b : Nat) (ho : W.ownsRow b 3 1 (.slice a n c) n (clC R)) => show Ints W.heap.size W a n (fun k => (List.getD R k ch0).1) from by subst hn; exact own_cl ho)
    have HIW := Lib.hid (fun (W : World) (a : Option Addr) (c b : Nat) (ho : W.ownsRow b 3 1 (.slice a n c) n (wtC R)) => show Ints W.heap.size W a n (fun k => (List.getD R k ch0).2) from by subst hn; exact own_wt ho)
    have HLN := Lib.hid (fun (hp : R.Perm (chsR (prN v r g (m + 1)))) => show n ≤ 40 from by have := hp.length_eq; omega)
    have HSM := Lib.hid (fun (W : World) (hn40 : n ≤ 40) (ca : Option Addr) (cc : Nat) (wa : Option Addr) (wc : Nat) (ca' : Option Addr) (cc' : Nat) (wa' : Option Addr) (wc' : Nat) (i1 : Ints W.heap.size W ca n (fun k => (List.getD R k ch0).1)) (i2 : Ints W.heap.size W wa n (fun k => (List.getD R k ch0).2)) (j1 : Ints W.heap.size W ca' n (fun k => (List.getD R k ch0).1)) (j2 : Ints W.heap.size W wa' n (fun k => (List.getD R k ch0).2)) => show Calls Tryz.prog 11 #[.agg #[.slice ca n cc, .slice wa n wc, .int .i64 lo, .int .i64 hi], .agg #[.slice ca' n cc', .slice wa' n wc', .int .i64 lo, .int .i64 hi]] W (fun e w' => e = .returned (.bool true) ∧ Below W.heap.size W w') from
      r8SameBeam_eq ⟨ca, n, cc, wa, n, wc, lo, hi, _, _⟩ ⟨ca', n, cc', wa', n, wc', lo, hi, _, _⟩ W ⟨by unfold maxLen; dsimp only; omega, by unfold maxLen; dsimp only; omega, i1, i2⟩ ⟨by unfold maxLen; dsimp only; omega, by unfold maxLen; dsimp only; omega, j1, j2⟩ ⟨rfl, rfl, rfl, rfl, fun _ _ => rfl, fun _ _ => rfl⟩)
    have HOF := Lib.hid (fun (W : World) (hb : Below w.heap.size w W) (hp : R.Perm (chsR (prN v r g (m + 1)))) (hD : denB dn d = true) (hN : (dn : Int) = v.nx * v.ny * v.nz) (ca : Option Addr) (cc : Nat) (wa : Option Addr) (wc : Nat) (i1 : Ints W.heap.size W ca n (fun k => (List.getD R k ch0).1)) (i2 : Ints W.heap.size W wa n (fun k => (List.getD R k ch0).2)) => show Calls Tryz.prog 14 #[.agg #[.slice ca n cc, .slice wa n wc, .int .i64 lo, .int .i64 hi], .slice da dn dc] W (fun e w' => e = .returned (.int .i64 (opS d (prN v r g (m + 1)))) ∧ Below W.heap.size W w') from by
      have hn40 : n ≤ 40 := by have := hp.length_eq; omega
      have hmem : ∀ k, k < n → List.getD R k ch0 ∈ chsR (prN v r g (m + 1)) := fun k hk => by
        rw [List.getD_eq_getElem?_getD, List.getElem?_eq_getElem (by omega)]
        exact hp.subset (List.getElem_mem _)
      rw [← ofN_bmS (ca := ca) (cc := cc) (wa := wa) (wc := wc) (lo := lo) (hi := hi) (S := R) (L := prN v r g (m + 1)) hp d]
      have h5 := r8OfG_any (bmS ca cc wa wc lo hi R) dn da dc d W W.heap.size (Nat.le_refl _) ⟨by show List.length R ≤ maxLen; unfold maxLen; omega, by show List.length R ≤ maxLen; unfold maxLen; omega, by show Ints W.heap.size W ca (List.length R) _; rw [hn]; exact i1, by show Ints W.heap.size W wa (List.length R) _; rw [hn]; exact i2⟩ (h.D hb) (by show List.length R ≤ 40; omega) (fun k hk => by
          have hk2 : k < n := by rw [← hn]; exact hk
          have := hcb _ (hmem k hk2)
          show 0 ≤ (List.getD R k ch0).1 ∧ (List.getD R k ch0).1 < (dn : Int)
          omega) rfl (fun k hk => by
          have hk2 : k < n := by rw [← hn]; exact hk
          exact ⟨hwt _ (hmem k hk2), hw _ (hmem k hk2)⟩) (fun c hc => denB_iff.1 hD c hc)
      have e : (bmS ca cc wa wc lo hi R).val = .agg #[.slice ca n cc, .slice wa n wc, .int .i64 lo, .int .i64 hi] := by
        show Value.agg #[.slice ca (List.length R) cc, .slice wa (List.length R) wc, .int .i64 lo, .int .i64 hi] = _
        rw [hn]
      rw [e] at h5
      exact h5)
    have HOP := Lib.hid (fun (W : World) (hb : Below w.heap.size w W) (hD : denB dn d = true) (hN : (dn : Int) = v.nx * v.ny * v.nz) => (hop W hb hN hD).mono (R' := fun e w' => e = .returned (.tuple #[.int .i64 (opS d (prN v r g (m + 1))), .int .i64 0]) ∧ Below W.heap.size W w') (fun e w' ⟨m', hM', he, hb'⟩ => by
      have em := isM_eq hM' hM
      subst em
      exact ⟨he, hb'⟩))
    clear h hok hsp hv hr hM hR8 hSH hop hap hcb hwt hlen hw hn hR
    generalize chsR (prN v r g (m + 1)) = CL at *
    generalize opS d (prN v r g (m + 1)) = O at *
    unfold VO.val at HVO HGR HSH HR8 HDE HOP
    unfold RY.val at HRA HSH HR8 HOP
    unfold VO.val RY.val
    go_enter Tryz.func3, Tryz.ntmps3; go_upto_region 1 with (fail); (obtain ⟨hVb, e1, e2, e3⟩ := rk_three w (.cells #[.int .i64 v.nx, .int .i64 v.ny, .int .i64 v.nz, .int .i64 v.size] 23) (.cells #[.int .i64 r.x, .int .i64 r.y, .int .i64 r.z, .int .i64 r.dx, .int .i64 r.dy, .int .i64 r.dz] 26) (.cells #[.int .i64 lo, .int .i64 hi] 28)); have HB := Lib.hid hVb; have HV := Lib.hid e1; have HRY := Lib.hid e2; have HSB := Lib.hid e3; clear hVb e1 e2 e3; generalize World.alloc (World.alloc (World.alloc w _) _) _ = V at *; (try clear v0 v1 v2 v3 s0 s1 s2 s3 s4 s5 p0 p1); obtain ⟨v0, v1, v2, v3⟩ := cr4 HV.out; obtain ⟨s0, s1, s2, s3, s4, s5⟩ := cr6 HRY.out; obtain ⟨p0, p1⟩ := cr2 HSB.out
    go_upto_region 4 with (go_at_call 6; refine (HSH.out _ HB.out).mono ?_; rintro e w2 ⟨ca, cc, wa, wc, rfl, hi2, hp, hb2⟩; have HI := Lib.hid hi2; have HPM := Lib.hid hp; (replace HB := Lib.hid (HB.out.trans ((hb2).mono HB.out.size)); replace HV := Lib.hid (bs HV.out hb2); replace HRY := Lib.hid (bs HRY.out hb2); replace HSB := Lib.hid (bs HSB.out hb2); (try clear v0 v1 v2 v3 s0 s1 s2 s3 s4 s5 p0 p1); obtain ⟨v0, v1, v2, v3⟩ := cr4 HV.out; obtain ⟨s0, s1, s2, s3, s4, s5⟩ := cr6 HRY.out; obtain ⟨p0, p1⟩ := cr2 HSB.out); clear hb2 hi2 hp)
    rename World => w2
    have hn40 := HLN.out HPM.out
    have HBB := Lib.hid (heap_alloc_new w2 (.cells #[.slice ca n cc, .slice wa n wc, .int .i64 lo, .int .i64 hi] 31))
    have hb3 := rk_below w2 (.cells #[.slice ca n cc, .slice wa n wc, .int .i64 lo, .int .i64 hi] 31)
    have HI3 := Lib.hid (And.intro ((HI.out.1.below hb3).up hb3.size) ((HI.out.2.below hb3).up hb3.size))
    (replace HB := Lib.hid (HB.out.trans ((hb3).mono HB.out.size)); replace HV := Lib.hid (bs HV.out hb3); replace HRY := Lib.hid (bs HRY.out hb3); replace HSB := Lib.hid (bs HSB.out hb3); (try clear v0 v1 v2 v3 s0 s1 s2 s3 s4 s5 p0 p1); obtain ⟨v0, v1, v2, v3⟩ := cr4 HV.out; obtain ⟨s0, s1, s2, s3, s4, s5⟩ := cr6 HRY.out; obtain ⟨p0, p1⟩ := cr2 HSB.out)
    clear hb3 HI
    clear HSH; generalize w2.heap.size = bb at *; generalize World.alloc w2 _ = w3 at *; have HB3 := Lib.hid (rk_below w3 (.cells #[.slice none 0 0, .slice none 0 0, .int .i64 0, .int .i64 0] 31)); have HXX := Lib.hid (heap_alloc_new w3 (.cells #[.slice none 0 0, .slice none 0 0, .int .i64 0, .int .i64 0] 31)); have HXB := Lib.hid (Nat.le_refl w3.heap.size); (try clear v0 v1 v2 v3 s0 s1 s2 s3 s4 s5 p0 p1); go_upto_region 6 with (fail); (try clear v0 v1 v2 v3 s0 s1 s2 s3 s4 s5 p0 p1 q0 q1 q2 q3); obtain ⟨v0, v1, v2, v3⟩ := cr4 ((HB3.out.block _ (bl HV.out)).trans HV.out); obtain ⟨s0, s1, s2, s3, s4, s5⟩ := cr6 ((HB3.out.block _ (bl HRY.out)).trans HRY.out); obtain ⟨p0, p1⟩ := cr2 ((HB3.out.block _ (bl HSB.out)).trans HSB.out); obtain ⟨q0, q1, q2, q3⟩ := cr4 ((HB3.out.block _ (bl HBB.out)).trans HBB.out); obtain ⟨xb, hxb⟩ : ∃ xb, w3.heap.size = xb := ⟨_, rfl⟩; rw [hxb] at HXX; (try rw [hxb]); have HXB := Lib.hid (Nat.le_of_eq hxb); clear hxb; generalize World.alloc w3 _ = w4 at *
    go_upto_region 10 with (first | (go_at_call 7; refine (HVO.out _).mono ?_; rintro e w9 ⟨rfl, hb2⟩; (replace HXX := Lib.hid (bs HXX.out hb2); (replace HB3 := Lib.hid (HB3.out.trans ((hb2).mono HB3.out.size)); (try clear v0 v1 v2 v3 s0 s1 s2 s3 s4 s5 p0 p1 q0 q1 q2 q3); obtain ⟨v0, v1, v2, v3⟩ := cr4 ((HB3.out.block _ (bl HV.out)).trans HV.out); obtain ⟨s0, s1, s2, s3, s4, s5⟩ := cr6 ((HB3.out.block _ (bl HRY.out)).trans HRY.out); obtain ⟨p0, p1⟩ := cr2 ((HB3.out.block _ (bl HSB.out)).trans HSB.out); obtain ⟨q0, q1, q2, q3⟩ := cr4 ((HB3.out.block _ (bl HBB.out)).trans HBB.out))); clear hb2) | (go_at_call 8; refine (HRA.out _).mono ?_; rintro e w9 ⟨rfl, hb2⟩; (replace HXX := Lib.hid (bs HXX.out hb2); (replace HB3 := Lib.hid (HB3.out.trans ((hb2).mono HB3.out.size)); (try clear v0 v1 v2 v3 s0 s1 s2 s3 s4 s5 p0 p1 q0 q1 q2 q3); obtain ⟨v0, v1, v2, v3⟩ := cr4 ((HB3.out.block _ (bl HV.out)).trans HV.out); obtain ⟨s0, s1, s2, s3, s4, s5⟩ := cr6 ((HB3.out.block _ (bl HRY.out)).trans HRY.out); obtain ⟨p0, p1⟩ := cr2 ((HB3.out.block _ (bl HSB.out)).trans HSB.out); obtain ⟨q0, q1, q2, q3⟩ := cr4 ((HB3.out.block _ (bl HBB.out)).trans HBB.out))); clear hb2) | (go_at_call 9; refine (HGR.out _ (HB.out.trans (HB3.out.mono HB.out.size))).mono ?_; rintro e w9 ⟨rfl, hb2⟩; (replace HXX := Lib.hid (bs HXX.out hb2); (replace HB3 := Lib.hid (HB3.out.trans ((hb2).mono HB3.out.size)); (try clear v0 v1 v2 v3 s0 s1 s2 s3 s4 s5 p0 p1 q0 q1 q2 q3); obtain ⟨v0, v1, v2, v3⟩ := cr4 ((HB3.out.block _ (bl HV.out)).trans HV.out); obtain ⟨s0, s1, s2, s3, s4, s5⟩ := cr6 ((HB3.out.block _ (bl HRY.out)).trans HRY.out); obtain ⟨p0, p1⟩ := cr2 ((HB3.out.block _ (bl HSB.out)).trans HSB.out); obtain ⟨q0, q1, q2, q3⟩ := cr4 ((HB3.out.block _ (bl HBB.out)).trans HBB.out))); clear hb2) | (go_at_call 10; refine (HR8.out _ (HB.out.trans (HB3.out.mono HB.out.size))).mono ?_; rintro e w9 ⟨ca2, cc2, wa2, wc2, rfl, ho, hb2⟩; have HO := Lib.hid ho; have HXL := Lib.hid (bl HXX.out); (replace HXX := Lib.hid (bs HXX.out hb2); (replace HB3 := Lib.hid (HB3.out.trans ((hb2).mono HB3.out.size)); (try clear v0 v1 v2 v3 s0 s1 s2 s3 s4 s5 p0 p1 q0 q1 q2 q3); obtain ⟨v0, v1, v2, v3⟩ := cr4 ((HB3.out.block _ (bl HV.out)).trans HV.out); obtain ⟨s0, s1, s2, s3, s4, s5⟩ := cr6 ((HB3.out.block _ (bl HRY.out)).trans HRY.out); obtain ⟨p0, p1⟩ := cr2 ((HB3.out.block _ (bl HSB.out)).trans HSB.out); obtain ⟨q0, q1, q2, q3⟩ := cr4 ((HB3.out.block _ (bl HBB.out)).trans HBB.out))); clear hb2 ho; (have hrb := HXX.out; obtain ⟨x0, x1, x2, x3⟩ := cr4 hrb; have f0 := frozen_of_row _ _ 0 _ _ hrb; have f1 := frozen_of_row _ _ 1 _ _ hrb; have f2 := frozen_of_row _ _ 2 _ _ hrb; have f3 := frozen_of_row _ _ 3 _ _ hrb; clear hrb)))
    rename World => w9
    obtain ⟨z1, z2, z3⟩ := set4 w9 xb _ _ _ _ _ (.slice ca2 n cc2) (.slice wa2 n wc2) (.int .i64 lo) (.int .i64 hi) HXX.out
    have HB3x := Lib.hid (z3 w3 HB3.out HXB.out)
    have HO2 := Lib.hid (And.intro (own_keep HO.out.1 (fun b hb => z2 b (by have h1 := own_block_le HO.out.1 hb; have h2 := HXL.out; omega))) (own_keep HO.out.2 (fun b hb => z2 b (by have h1 := own_block_le HO.out.2 hb; have h2 := HXL.out; omega))))
    have HX2 := Lib.hid z1
    clear HB3 z1 z2 z3 x0 x1 x2 x3 f0 f1 f2 f3 HXX HO HXL
    generalize World.setCell (World.setCell (World.setCell (World.setCell w9 _ _) _ _) _ _) _ _ = wf at *
    have HB3 := HB3x
    clear HB3x
    have HSZ := Lib.hid (HSM.out wf hn40 ca cc wa wc ca2 cc2 wa2 wc2 ((HI3.out.1.below HB3.out).up HB3.out.size) ((HI3.out.2.below HB3.out).up HB3.out.size) (HIN.out _ _ _ _ HO2.out.1) (HIW.out _ _ _ _ HO2.out.2))
    obtain ⟨y0, y1, y2, y3⟩ := cr4 HX2.out
    (try clear v0 v1 v2 v3 s0 s1 s2 s3 s4 s5 p0 p1 q0 q1 q2 q3); obtain ⟨v0, v1, v2, v3⟩ := cr4 ((HB3.out.block _ (bl HV.out)).trans HV.out); obtain ⟨s0, s1, s2, s3, s4, s5⟩ := cr6 ((HB3.out.block _ (bl HRY.out)).trans HRY.out); obtain ⟨p0, p1⟩ := cr2 ((HB3.out.block _ (bl HSB.out)).trans HSB.out); obtain ⟨q0, q1, q2, q3⟩ := cr4 ((HB3.out.block _ (bl HBB.out)).trans HBB.out)
    go_upto_region 16 with (go_at_call 11; refine HSZ.out.mono ?_; rintro e w10 ⟨rfl, hb2⟩; clear y0 y1 y2 y3; (replace HB3 := Lib.hid (HB3.out.trans ((hb2).mono HB3.out.size)); (try clear v0 v1 v2 v3 s0 s1 s2 s3 s4 s5 p0 p1 q0 q1 q2 q3); obtain ⟨v0, v1, v2, v3⟩ := cr4 ((HB3.out.block _ (bl HV.out)).trans HV.out); obtain ⟨s0, s1, s2, s3, s4, s5⟩ := cr6 ((HB3.out.block _ (bl HRY.out)).trans HRY.out); obtain ⟨p0, p1⟩ := cr2 ((HB3.out.block _ (bl HSB.out)).trans HSB.out); obtain ⟨q0, q1, q2, q3⟩ := cr4 ((HB3.out.block _ (bl HBB.out)).trans HBB.out)); clear hb2)
    rename World => w10
    (try clear y0 y1 y2 y3)
    obtain ⟨D, hD⟩ : ∃ D, (denB dn d && ((dn : Int) == v.nx * v.ny * v.nz)) = D := ⟨_, rfl⟩
    rw [hD] at HDE
    cases D
    · clear HOP HOF hD
      go_wp2_with (first | (go_at_call 12; refine (HDE.out _ (HB.out.trans (HB3.out.mono HB.out.size))).mono ?_; rintro e w9 ⟨rfl, hb2⟩; (replace HB3 := Lib.hid (HB3.out.trans ((hb2).mono HB3.out.size)); (try clear v0 v1 v2 v3 s0 s1 s2 s3 s4 s5 p0 p1 q0 q1 q2 q3); obtain ⟨v0, v1, v2, v3⟩ := cr4 ((HB3.out.block _ (bl HV.out)).trans HV.out); obtain ⟨s0, s1, s2, s3, s4, s5⟩ := cr6 ((HB3.out.block _ (bl HRY.out)).trans HRY.out); obtain ⟨p0, p1⟩ := cr2 ((HB3.out.block _ (bl HSB.out)).trans HSB.out); obtain ⟨q0, q1, q2, q3⟩ := cr4 ((HB3.out.block _ (bl HBB.out)).trans HBB.out)); clear hb2) | (go_at_call 5; refine (HKN.out _ (HB.out.trans (HB3.out.mono HB.out.size))).mono ?_; rintro e w9 ⟨rfl, hb2⟩; (replace HB3 := Lib.hid (HB3.out.trans ((hb2).mono HB3.out.size)); (try clear v0 v1 v2 v3 s0 s1 s2 s3 s4 s5 p0 p1 q0 q1 q2 q3); obtain ⟨v0, v1, v2, v3⟩ := cr4 ((HB3.out.block _ (bl HV.out)).trans HV.out); obtain ⟨s0, s1, s2, s3, s4, s5⟩ := cr6 ((HB3.out.block _ (bl HRY.out)).trans HRY.out); obtain ⟨p0, p1⟩ := cr2 ((HB3.out.block _ (bl HSB.out)).trans HSB.out); obtain ⟨q0, q1, q2, q3⟩ := cr4 ((HB3.out.block _ (bl HBB.out)).trans HBB.out)); clear hb2))
      (go_ret; exact ⟨rfl, HB.out.trans (HB3.out.mono HB.out.size)⟩)
    · rw [Bool.and_eq_true, beq_iff_eq] at hD
      have HOP2 := Lib.hid (fun (W : World) (hb : Below w.heap.size w W) => HOP.out W hb hD.1 hD.2)
      have HOF2 := Lib.hid (fun (W : World) (hb : Below w3.heap.size w3 W) => HOF.out W (HB.out.trans (hb.mono HB.out.size)) HPM.out hD.1 hD.2 ca cc wa wc ((HI3.out.1.below hb).up hb.size) ((HI3.out.2.below hb).up hb.size))
      clear HOP HOF hD
      go_wp2_with (first | (go_at_call 12; refine (HDE.out _ (HB.out.trans (HB3.out.mono HB.out.size))).mono ?_; rintro e w9 ⟨rfl, hb2⟩; (replace HB3 := Lib.hid (HB3.out.trans ((hb2).mono HB3.out.size)); (try clear v0 v1 v2 v3 s0 s1 s2 s3 s4 s5 p0 p1 q0 q1 q2 q3); obtain ⟨v0, v1, v2, v3⟩ := cr4 ((HB3.out.block _ (bl HV.out)).trans HV.out); obtain ⟨s0, s1, s2, s3, s4, s5⟩ := cr6 ((HB3.out.block _ (bl HRY.out)).trans HRY.out); obtain ⟨p0, p1⟩ := cr2 ((HB3.out.block _ (bl HSB.out)).trans HSB.out); obtain ⟨q0, q1, q2, q3⟩ := cr4 ((HB3.out.block _ (bl HBB.out)).trans HBB.out)); clear hb2) | (go_at_call 13; refine (HOP2.out _ (HB.out.trans (HB3.out.mono HB.out.size))).mono ?_; rintro e w11 ⟨rfl, hb2⟩; (replace HB3 := Lib.hid (HB3.out.trans ((hb2).mono HB3.out.size)); (try clear v0 v1 v2 v3 s0 s1 s2 s3 s4 s5 p0 p1 q0 q1 q2 q3); obtain ⟨v0, v1, v2, v3⟩ := cr4 ((HB3.out.block _ (bl HV.out)).trans HV.out); obtain ⟨s0, s1, s2, s3, s4, s5⟩ := cr6 ((HB3.out.block _ (bl HRY.out)).trans HRY.out); obtain ⟨p0, p1⟩ := cr2 ((HB3.out.block _ (bl HSB.out)).trans HSB.out); obtain ⟨q0, q1, q2, q3⟩ := cr4 ((HB3.out.block _ (bl HBB.out)).trans HBB.out)); clear hb2) | (go_at_call 14; refine (HOF2.out _ HB3.out).mono ?_; rintro e w12 ⟨rfl, hb2⟩; (replace HB3 := Lib.hid (HB3.out.trans ((hb2).mono HB3.out.size)); (try clear v0 v1 v2 v3 s0 s1 s2 s3 s4 s5 p0 p1 q0 q1 q2 q3); obtain ⟨v0, v1, v2, v3⟩ := cr4 ((HB3.out.block _ (bl HV.out)).trans HV.out); obtain ⟨s0, s1, s2, s3, s4, s5⟩ := cr6 ((HB3.out.block _ (bl HRY.out)).trans HRY.out); obtain ⟨p0, p1⟩ := cr2 ((HB3.out.block _ (bl HSB.out)).trans HSB.out); obtain ⟨q0, q1, q2, q3⟩ := cr4 ((HB3.out.block _ (bl HBB.out)).trans HBB.out)); clear hb2) | (go_at_call 5; refine (HKN.out _ (HB.out.trans (HB3.out.mono HB.out.size))).mono ?_; rintro e w9 ⟨rfl, hb2⟩; (replace HB3 := Lib.hid (HB3.out.trans ((hb2).mono HB3.out.size)); (try clear v0 v1 v2 v3 s0 s1 s2 s3 s4 s5 p0 p1 q0 q1 q2 q3); obtain ⟨v0, v1, v2, v3⟩ := cr4 ((HB3.out.block _ (bl HV.out)).trans HV.out); obtain ⟨s0, s1, s2, s3, s4, s5⟩ := cr6 ((HB3.out.block _ (bl HRY.out)).trans HRY.out); obtain ⟨p0, p1⟩ := cr2 ((HB3.out.block _ (bl HSB.out)).trans HSB.out); obtain ⟨q0, q1, q2, q3⟩ := cr4 ((HB3.out.block _ (bl HBB.out)).trans HBB.out)); clear hb2))
      (go_ret; exact ⟨rfl, HB.out.trans (HB3.out.mono HB.out.size)⟩)
  · have HSH := Lib.hid (fun (W : World) (hb : Below w.heap.size w W) => (hSH W hb).mono (R' := fun e w' => e = .returned (.tuple #[.agg #[.slice none 0 0, .slice none 0 0, .int .i64 0, .int .i64 0], .int .i64 3]) ∧ Below W.heap.size W w') (fun e w' ⟨m', S, hM', hP, hS, hb', hres⟩ => by
      have em := isM_eq hM' hM
      subst em
      rcases hres with ⟨hle, _⟩ | ⟨_, rfl⟩
      · exact absurd (fun x hx => hle x (hP.symm.subset hx)) hw
      · exact ⟨rfl, hb'⟩))
    have HR8 := Lib.hid (fun (W : World) (hb : Below w.heap.size w W) => (hR8 W hb).mono (R' := fun e w' => e = .returned (.tuple #[.agg #[.slice none 0 0, .slice none 0 0, .int .i64 0, .int .i64 0], .bool false]) ∧ Below W.heap.size W w') (fun e w' ⟨hb', hres⟩ => by
      rcases hres with ⟨hle, _⟩ | ⟨_, rfl⟩
      · exact absurd hle hw
      · exact ⟨rfl, hb'⟩))
    have HSZ := Lib.hid (fun (W : World) => same_zero W)
    unfold VO.val at HVO HGR HSH HR8
    unfold RY.val at HRA HSH HR8
    unfold VO.val RY.val
    clear h hok hsp hv hr hM hR8 hSH hop hap hcb hwt hlen hw HDE
    go_enter Tryz.func3, Tryz.ntmps3; go_upto_region 1 with (fail); (obtain ⟨hVb, e1, e2, e3⟩ := rk_three w (.cells #[.int .i64 v.nx, .int .i64 v.ny, .int .i64 v.nz, .int .i64 v.size] 23) (.cells #[.int .i64 r.x, .int .i64 r.y, .int .i64 r.z, .int .i64 r.dx, .int .i64 r.dy, .int .i64 r.dz] 26) (.cells #[.int .i64 lo, .int .i64 hi] 28)); have HB := Lib.hid hVb; have HV := Lib.hid e1; have HRY := Lib.hid e2; have HSB := Lib.hid e3; clear hVb e1 e2 e3; generalize World.alloc (World.alloc (World.alloc w _) _) _ = V at *; (try clear v0 v1 v2 v3 s0 s1 s2 s3 s4 s5 p0 p1); obtain ⟨v0, v1, v2, v3⟩ := cr4 HV.out; obtain ⟨s0, s1, s2, s3, s4, s5⟩ := cr6 HRY.out; obtain ⟨p0, p1⟩ := cr2 HSB.out
    go_upto_region 4 with (go_at_call 6; refine (HSH.out _ HB.out).mono ?_; rintro e w2 ⟨rfl, hb2⟩; (replace HB := Lib.hid (HB.out.trans ((hb2).mono HB.out.size)); replace HV := Lib.hid (bs HV.out hb2); replace HRY := Lib.hid (bs HRY.out hb2); replace HSB := Lib.hid (bs HSB.out hb2); (try clear v0 v1 v2 v3 s0 s1 s2 s3 s4 s5 p0 p1); obtain ⟨v0, v1, v2, v3⟩ := cr4 HV.out; obtain ⟨s0, s1, s2, s3, s4, s5⟩ := cr6 HRY.out; obtain ⟨p0, p1⟩ := cr2 HSB.out); clear hb2)
    rename World => w2
    have HBB := Lib.hid (heap_alloc_new w2 (.cells #[.slice none 0 0, .slice none 0 0, .int .i64 0, .int .i64 0] 31))
    have hb3 := rk_below w2 (.cells #[.slice none 0 0, .slice none 0 0, .int .i64 0, .int .i64 0] 31)
    (replace HB := Lib.hid (HB.out.trans ((hb3).mono HB.out.size)); replace HV := Lib.hid (bs HV.out hb3); replace HRY := Lib.hid (bs HRY.out hb3); replace HSB := Lib.hid (bs HSB.out hb3); (try clear v0 v1 v2 v3 s0 s1 s2 s3 s4 s5 p0 p1); obtain ⟨v0, v1, v2, v3⟩ := cr4 HV.out; obtain ⟨s0, s1, s2, s3, s4, s5⟩ := cr6 HRY.out; obtain ⟨p0, p1⟩ := cr2 HSB.out)
    clear hb3
    clear HSH; generalize w2.heap.size = bb at *; generalize World.alloc w2 _ = w3 at *; have HB3 := Lib.hid (rk_below w3 (.cells #[.slice none 0 0, .slice none 0 0, .int .i64 0, .int .i64 0] 31)); have HXX := Lib.hid (heap_alloc_new w3 (.cells #[.slice none 0 0, .slice none 0 0, .int .i64 0, .int .i64 0] 31)); have HXB := Lib.hid (Nat.le_refl w3.heap.size); (try clear v0 v1 v2 v3 s0 s1 s2 s3 s4 s5 p0 p1); go_upto_region 6 with (fail); (try clear v0 v1 v2 v3 s0 s1 s2 s3 s4 s5 p0 p1 q0 q1 q2 q3); obtain ⟨v0, v1, v2, v3⟩ := cr4 ((HB3.out.block _ (bl HV.out)).trans HV.out); obtain ⟨s0, s1, s2, s3, s4, s5⟩ := cr6 ((HB3.out.block _ (bl HRY.out)).trans HRY.out); obtain ⟨p0, p1⟩ := cr2 ((HB3.out.block _ (bl HSB.out)).trans HSB.out); obtain ⟨q0, q1, q2, q3⟩ := cr4 ((HB3.out.block _ (bl HBB.out)).trans HBB.out); obtain ⟨xb, hxb⟩ : ∃ xb, w3.heap.size = xb := ⟨_, rfl⟩; rw [hxb] at HXX; (try rw [hxb]); have HXB := Lib.hid (Nat.le_of_eq hxb); clear hxb; generalize World.alloc w3 _ = w4 at *
    go_upto_region 10 with (first | (go_at_call 7; refine (HVO.out _).mono ?_; rintro e w9 ⟨rfl, hb2⟩; (replace HXX := Lib.hid (bs HXX.out hb2); (replace HB3 := Lib.hid (HB3.out.trans ((hb2).mono HB3.out.size)); (try clear v0 v1 v2 v3 s0 s1 s2 s3 s4 s5 p0 p1 q0 q1 q2 q3); obtain ⟨v0, v1, v2, v3⟩ := cr4 ((HB3.out.block _ (bl HV.out)).trans HV.out); obtain ⟨s0, s1, s2, s3, s4, s5⟩ := cr6 ((HB3.out.block _ (bl HRY.out)).trans HRY.out); obtain ⟨p0, p1⟩ := cr2 ((HB3.out.block _ (bl HSB.out)).trans HSB.out); obtain ⟨q0, q1, q2, q3⟩ := cr4 ((HB3.out.block _ (bl HBB.out)).trans HBB.out))); clear hb2) | (go_at_call 8; refine (HRA.out _).mono ?_; rintro e w9 ⟨rfl, hb2⟩; (replace HXX := Lib.hid (bs HXX.out hb2); (replace HB3 := Lib.hid (HB3.out.trans ((hb2).mono HB3.out.size)); (try clear v0 v1 v2 v3 s0 s1 s2 s3 s4 s5 p0 p1 q0 q1 q2 q3); obtain ⟨v0, v1, v2, v3⟩ := cr4 ((HB3.out.block _ (bl HV.out)).trans HV.out); obtain ⟨s0, s1, s2, s3, s4, s5⟩ := cr6 ((HB3.out.block _ (bl HRY.out)).trans HRY.out); obtain ⟨p0, p1⟩ := cr2 ((HB3.out.block _ (bl HSB.out)).trans HSB.out); obtain ⟨q0, q1, q2, q3⟩ := cr4 ((HB3.out.block _ (bl HBB.out)).trans HBB.out))); clear hb2) | (go_at_call 9; refine (HGR.out _ (HB.out.trans (HB3.out.mono HB.out.size))).mono ?_; rintro e w9 ⟨rfl, hb2⟩; (replace HXX := Lib.hid (bs HXX.out hb2); (replace HB3 := Lib.hid (HB3.out.trans ((hb2).mono HB3.out.size)); (try clear v0 v1 v2 v3 s0 s1 s2 s3 s4 s5 p0 p1 q0 q1 q2 q3); obtain ⟨v0, v1, v2, v3⟩ := cr4 ((HB3.out.block _ (bl HV.out)).trans HV.out); obtain ⟨s0, s1, s2, s3, s4, s5⟩ := cr6 ((HB3.out.block _ (bl HRY.out)).trans HRY.out); obtain ⟨p0, p1⟩ := cr2 ((HB3.out.block _ (bl HSB.out)).trans HSB.out); obtain ⟨q0, q1, q2, q3⟩ := cr4 ((HB3.out.block _ (bl HBB.out)).trans HBB.out))); clear hb2) | (go_at_call 10; refine (HR8.out _ (HB.out.trans (HB3.out.mono HB.out.size))).mono ?_; rintro e w9 ⟨rfl, hb2⟩; (replace HXX := Lib.hid (bs HXX.out hb2); (replace HB3 := Lib.hid (HB3.out.trans ((hb2).mono HB3.out.size)); (try clear v0 v1 v2 v3 s0 s1 s2 s3 s4 s5 p0 p1 q0 q1 q2 q3); obtain ⟨v0, v1, v2, v3⟩ := cr4 ((HB3.out.block _ (bl HV.out)).trans HV.out); obtain ⟨s0, s1, s2, s3, s4, s5⟩ := cr6 ((HB3.out.block _ (bl HRY.out)).trans HRY.out); obtain ⟨p0, p1⟩ := cr2 ((HB3.out.block _ (bl HSB.out)).trans HSB.out); obtain ⟨q0, q1, q2, q3⟩ := cr4 ((HB3.out.block _ (bl HBB.out)).trans HBB.out))); clear hb2; (have hrb := HXX.out; obtain ⟨x0, x1, x2, x3⟩ := cr4 hrb; have f0 := frozen_of_row _ _ 0 _ _ hrb; have f1 := frozen_of_row _ _ 1 _ _ hrb; have f2 := frozen_of_row _ _ 2 _ _ hrb; have f3 := frozen_of_row _ _ 3 _ _ hrb; clear hrb)))
    rename World => w9
    obtain ⟨z1, z2, z3⟩ := set4 w9 xb _ _ _ _ _ (.slice none 0 0) (.slice none 0 0) (.int .i64 0) (.int .i64 0) HXX.out
    have HB3x := Lib.hid (z3 w3 HB3.out HXB.out)
    clear HB3 z1 z2 z3 x0 x1 x2 x3 f0 f1 f2 f3 HXX
    generalize World.setCell (World.setCell (World.setCell (World.setCell w9 _ _) _ _) _ _) _ _ = wf at *
    have HB3 := HB3x
    clear HB3x
    (try clear v0 v1 v2 v3 s0 s1 s2 s3 s4 s5 p0 p1 q0 q1 q2 q3); obtain ⟨v0, v1, v2, v3⟩ := cr4 ((HB3.out.block _ (bl HV.out)).trans HV.out); obtain ⟨s0, s1, s2, s3, s4, s5⟩ := cr6 ((HB3.out.block _ (bl HRY.out)).trans HRY.out); obtain ⟨p0, p1⟩ := cr2 ((HB3.out.block _ (bl HSB.out)).trans HSB.out); obtain ⟨q0, q1, q2, q3⟩ := cr4 ((HB3.out.block _ (bl HBB.out)).trans HBB.out)
    go_wp2_with (first | (go_at_call 11; refine (HSZ.out _).mono ?_; rintro e w9 ⟨rfl, hb2⟩; (replace HB3 := Lib.hid (HB3.out.trans ((hb2).mono HB3.out.size)); (try clear v0 v1 v2 v3 s0 s1 s2 s3 s4 s5 p0 p1 q0 q1 q2 q3); obtain ⟨v0, v1, v2, v3⟩ := cr4 ((HB3.out.block _ (bl HV.out)).trans HV.out); obtain ⟨s0, s1, s2, s3, s4, s5⟩ := cr6 ((HB3.out.block _ (bl HRY.out)).trans HRY.out); obtain ⟨p0, p1⟩ := cr2 ((HB3.out.block _ (bl HSB.out)).trans HSB.out); obtain ⟨q0, q1, q2, q3⟩ := cr4 ((HB3.out.block _ (bl HBB.out)).trans HBB.out)); clear hb2) | (go_at_call 5; refine (HKN.out _ (HB.out.trans (HB3.out.mono HB.out.size))).mono ?_; rintro e w9 ⟨rfl, hb2⟩; (replace HB3 := Lib.hid (HB3.out.trans ((hb2).mono HB3.out.size)); (try clear v0 v1 v2 v3 s0 s1 s2 s3 s4 s5 p0 p1 q0 q1 q2 q3); obtain ⟨v0, v1, v2, v3⟩ := cr4 ((HB3.out.block _ (bl HV.out)).trans HV.out); obtain ⟨s0, s1, s2, s3, s4, s5⟩ := cr6 ((HB3.out.block _ (bl HRY.out)).trans HRY.out); obtain ⟨p0, p1⟩ := cr2 ((HB3.out.block _ (bl HSB.out)).trans HSB.out); obtain ⟨q0, q1, q2, q3⟩ := cr4 ((HB3.out.block _ (bl HBB.out)).trans HBB.out)); clear hb2))
    (go_ret; exact ⟨rfl, HB.out.trans (HB3.out.mono HB.out.size)⟩)
/-- ImageShines, put together -/
theorem ImageShines_any (v : VO) (ga : Option Addr) (gn gc : Nat) (g : Nat → Int) (r : RY) (s : SV) (da : Option Addr) (dn dc : Nat) (d : Nat → Int) (w : World) (B : Nat) (hBw : B ≤ w.heap.size) (hG : Ints B w ga gn g) (hgn : gn ≤ maxLen) (hD : Ints B w da dn d) (hdn : dn ≤ maxLen) (htab : Lib.TabIs Tryz.prog w "internal/strconv.uint64pow10" .u64 Lib.pow10Tab) :
    Calls Tryz.prog 3 #[v.val, .slice ga gn gc, r.val, .agg #[.int .i64 s.lo, .int .i64 s.hi], .slice da dn dc] w fun e w' => e = .returned (.bool true) ∧ Below w.heap.size w w' := by
  have h : ShIn w B ga gn g da dn d := ⟨hBw, hG, hgn, hD, hdn, Lib.tabBelow_of_tabIs htab⟩
  by_cases hl : 200 < gn ∨ 700 < dn
  · exact Shn_long v gc dc r s h hl
  · by_cases hk : rkOk v r gn g = true
    · by_cases hs : spanB ⟨s.lo, s.hi⟩ 1000000000000 = true
      · exact Shn_ok v gc dc r s h (by omega) (by omega) hk hs
      · exact Shn_bad v gc dc r s h (by omega) (by omega) (.inr (by simpa using hs))
    · exact Shn_bad v gc dc r s h (by omega) (by omega) (.inl (by simpa using hk))
end Go.Proofs.YtkdopjkdokgipaaGreatDoor
