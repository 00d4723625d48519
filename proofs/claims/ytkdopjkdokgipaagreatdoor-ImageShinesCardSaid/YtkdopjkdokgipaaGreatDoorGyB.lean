/- Texts put together: RfD, RfE, RfF, RfG. -/
import Derived.Test.YtkdopjkdokgipaaGreatDoorGyA
import Derived.Test.YtkdopjkdokgipaaGreatDoorImB
import Derived.Test.YtkdopjkdokgipaaGreatDoorGaA
namespace Go.Proofs.YtkdopjkdokgipaaGreatDoor
open Go.RowKit Go.Shelf
set_option linter.unusedVariables false
set_option linter.unusedSimpArgs false
set_option maxRecDepth 100000 in
set_option maxHeartbeats 2000000 in
theorem r6Cut_any (p : PT) (pb po pc : Nat) (from_ until_ : Int) (w : World) (h0 : w.cell? ⟨pb, po, none⟩ = some (.int .i64 p.cell)) (h1 : w.cell? ⟨pb, po + 1, none⟩ = some (.int .i64 p.lo)) (h2 : w.cell? ⟨pb, po + 2, none⟩ = some (.int .i64 p.hi)) :
    Calls Tryz.prog 83 #[.slice (some ⟨pb, po, none⟩) 1 pc, .int .i64 from_, .int .i64 until_] w (PcRes (cutR p from_ until_) w) := by
  obtain ⟨c, lo, hi'⟩ := p
  dsimp only at h0 h1 h2
  have HQ := Lib.hid (show cutR ⟨c, lo, hi'⟩ from_ until_ = if max lo from_ < min hi' until_ then [⟨c, max lo from_, min hi' until_⟩] else [] from rfl)
  have HRES := Lib.hid (fun (a : Option Addr) (n cc : Nat) (W' : World) (h0 : n = (cutR ⟨c, lo, hi'⟩ from_ until_).length) (h1 : W'.ownsRow w.heap.size 90 3 (.slice a n cc) n (ptC (cutR ⟨c, lo, hi'⟩ from_ until_))) (h2 : Below w.heap.size w W') => show PcRes (cutR ⟨c, lo, hi'⟩ from_ until_) w (.returned (.slice a n cc)) W' from by subst h0; exact ⟨a, cc, rfl, h1, h2⟩)
  generalize PcRes (cutR ⟨c, lo, hi'⟩ from_ until_) w = RES at *
  generalize cutR ⟨c, lo, hi'⟩ from_ until_ = Q at *
  have HH := Lib.hid (And.intro h0 (And.intro h1 h2))
  have hpz := World.block_lt_of_cell? w _ h0
  clear h0 h1 h2
  obtain ⟨i0, hi0', hz0, hz1, hz2⟩ := info_parts info_piece
  go_enter Tryz.func83, Tryz.ntmps83
  go_wp2
  go_loopw [7, 8] (fun s7 s8 wr => ∃ (i : Nat) (a : Option Addr) (n cc : Nat), i ≤ 1 ∧ s8 = .int .i64 (i : Int) ∧ s7 = .slice a n cc ∧ Hid (Below w.heap.size w wr ∧ (i = 0 → a = none ∧ n = 0 ∧ cc = 0) ∧ (i = 1 → n = Q.length ∧ wr.ownsRow w.heap.size 90 3 (.slice a n cc) n (ptC Q)))) (fun _ s8 _ => 1 - (intOf s8).toNat)
  case atStart => exact ⟨0, none, 0, 0, by omega, rfl, rfl, Lib.hid ⟨Below.refl _ _, fun _ => ⟨rfl, rfl, rfl⟩, fun h => by omega⟩⟩
  case round =>
    obtain ⟨i, a, n, cc, hi, rfl, rfl, HS⟩ := hrel
    by_cases hlt : i = 0
    · subst hlt
      obtain ⟨rfl, rfl, rfl⟩ := HS.out.2.1 rfl
      have HB := Lib.hid HS.out.1
      have d0 := ((bcell HB.out).1 _ _ hpz).trans HH.out.1
      have d1 := ((bcell HB.out).1 _ _ hpz).trans HH.out.2.1
      have d2 := ((bcell HB.out).1 _ _ hpz).trans HH.out.2.2
      clear HS
      go_upto_region 5 with (fail)
      go_region
      (try rw [show (if lo < from_ then from_ else lo) = max lo from_ from by split <;> omega])
      (try rw [show (if until_ < hi' then until_ else hi') = min hi' until_ from by split <;> omega])
      generalize max lo from_ = A at *
      generalize min hi' until_ = Z at *
      have HBd := Lib.hid (show Below w.heap.size w wr.drew from HB.out.drew)
      have e0 : wr.drew.cell? ⟨pb, po, none⟩ = some (.int .i64 c) := d0
      clear HB d0 d1 d2
      generalize World.drew wr = wd at *
      by_cases hlz : A < Z
      · have HQ2 := Lib.hid (show Q = [⟨c, A, Z⟩] from by rw [HQ.out, if_pos hlz])
        go_upto_region 7 with (fail)
        go_wp2_with (at_builtin; refine wpList_append_lies _ rfl _ _ 87 rfl w.heap.size 90 i0 _ 3 24 Tryz.underlying87 hi0' hz0 hz1 hz2 rfl (by decide) (.slice none 0 0) 0 [] rfl (World.ownsRow_nil _ _ _ _) ⟨wd.heap.size, 0, none⟩ 1 1 [.int .i64 c, .int .i64 A, .int .i64 Z] rfl rfl (World.news_of_block (heap_alloc_new wd (.cells #[.int .i64 c, .int .i64 A, .int .i64 Z] 90))) pt_one (by decide) (by decide) (by decide) (by have := HBd.out.size; simp; omega) _ rfl ?_; intro g1 p1 w9 hown9 hgrow9 hat9 hlt9; have HO9 := Lib.hid hown9; have HB9 := Lib.hid (show Below w.heap.size w w9 from (HBd.out.alloc HBd.out.size _).grown hgrow9 (by have := HBd.out.size; simp; omega) (fun b e => by cases e)); clear hown9 hgrow9 hat9 hlt9)
        go_roundw
        case rel => exact ⟨1, some ⟨g1, 0, none⟩, 1, p1, by omega, by rfl, rfl, Lib.hid ⟨HB9.out, fun h => by omega, fun _ => ⟨by rw [HQ2.out]; rfl, by rw [HQ2.out, ptC_one]; exact HO9.out⟩⟩⟩
        case measure => simp [intOf]
      · have HQ2 := Lib.hid (show Q = [] from by rw [HQ.out, if_neg hlz])
        go_wp2
        go_roundw
        case rel => exact ⟨1, none, 0, 0, by omega, by rfl, rfl, Lib.hid ⟨HBd.out, fun h => by omega, fun _ => ⟨by rw [HQ2.out]; rfl, by rw [HQ2.out]; exact World.ownsRow_nil _ _ _ _⟩⟩⟩
        case measure => simp [intOf]
    · obtain rfl : i = 1 := by omega
      obtain ⟨h1, h2⟩ := HS.out.2.2 rfl
      have HR2 := Lib.hid (HRES.out a n cc wr h1 h2 HS.out.1)
      clear h1 h2
      go_wp2
      exact HR2.out
theorem pc_ok {v : VO} {r : RY} {m : Nat} (hv : v.Ok) (hr : r.Ok) (hM : IsM v r m) : ∀ k, k ≤ m + 1 → ∀ p ∈ pcN v r k, (0 ≤ p.cell ∧ p.cell < v.nx * v.ny * v.nz) ∧ (0 ≤ p.lo ∧ p.lo ≤ 43200000000) ∧ (0 ≤ p.hi ∧ p.hi ≤ 43200000000)
  | 0, _, p, hp => by cases hp
  | 1, _, p, hp => by cases hp
  | k + 2, h, p, hp => by
    rw [pcN, List.mem_append] at hp
    rcases hp with hp | hp
    · exact pc_ok hv hr hM (k + 1) (by omega) p hp
    · unfold pc1 at hp
      split at hp
      · cases hp
      · rw [List.mem_singleton] at hp
        subst hp
        have := cell_bound hv hr (atF v r k) (atF v r (k + 1))
        exact ⟨⟨by dsimp only; omega, this.2⟩, ⟨hM.1 k (by omega), (atF_low hv hr k).2⟩, ⟨hM.1 (k + 1) (by omega), (atF_low hv hr (k + 1)).2⟩⟩
theorem pcrow_of {W : World} {base : Nat} {a : Option Addr} {c : Nat} {L : List PT} (h : W.ownsRow base 90 3 (.slice a L.length c) L.length (ptC L)) : PRow W a L := by
  by_cases hl : L.length = 0
  · exact .inl hl
  · obtain ⟨b, rfl, h1, h2⟩ := own_at h (by omega)
    refine .inr ⟨b, rfl, h2, fun i hi => ?_⟩
    have hc : ∀ s, s < 3 → W.cell? ⟨b, i * 3 + s, none⟩ = (L.getD i pt0).cells[s]? := fun s hs => by
      rw [h.cellAt (i * 3 + s) (by omega)]
      exact ptC_get L i s pt0 hi hs
    exact ⟨hc 0 (by omega), hc 1 (by omega), hc 2 (by omega)⟩
theorem own_cap {W : World} {base : Nat} {e : TypeId} {k : Nat} {a : Option Addr} {n c : Nat} {m : Nat} {xs : List Value} (h : W.ownsRow base e k (.slice a n c) m xs) : m ≤ c := by
  rcases h.2 with ⟨e, h0⟩ | ⟨g, cap, cur, e, h1, h2, h3, h4, _⟩
  · omega
  · injection e with e1 e2 e3
    omega
theorem unL_take (v : VO) (r : RY) (g : Nat → Int) (L : List PT) {i : Nat} (h : i < L.length) : unL v r g (L.take (i + 1)) = unL v r g (L.take i) ++ un1 v r g (L.getD i pt0) := by
  have e : L.take (i + 1) = L.take i ++ [L.getD i pt0] := by
    rw [List.take_add_one, List.getElem?_eq_getElem h, List.getD_eq_getElem?_getD, List.getElem?_eq_getElem h]
    rfl
  rw [e, unL_append]
  show _ ++ (un1 v r g (L.getD i pt0) ++ []) = _
  rw [List.append_nil]
theorem un1_len (v : VO) (r : RY) (g : Nat → Int) (p : PT) : (un1 v r g p).length ≤ 1 := by
  unfold un1 cutR
  split
  · split <;> simp
  · split
    · split <;> simp
    · split <;> simp
theorem unL_len (v : VO) (r : RY) (g : Nat → Int) : ∀ (L : List PT), (unL v r g L).length ≤ L.length
  | [] => Nat.le_refl _
  | p :: L => by
    rw [unL, List.length_append, List.length_cons]
    have := unL_len v r g L
    have := un1_len v r g p
    omega
theorem pt_cells_one (L : List PT) : ∀ u ∈ ptC L, u.oneCell' = true := by
  intro u hu
  induction L with
  | nil => cases hu
  | cons x t ih =>
    rw [ptC, List.mem_append] at hu
    rcases hu with hu | hu
    · simp only [PT.cells, List.mem_cons, List.not_mem_nil, or_false] at hu
      rcases hu with rfl | rfl | rfl <;> rfl
    · exact ih hu
theorem pt_cells_len : ∀ (L : List PT), (ptC L).length = L.length * 3
  | [] => rfl
  | x :: t => by rw [ptC, List.length_append, pt_cells_len t, List.length_cons]; simp [PT.cells]; omega
theorem pc_src {W : World} {base : Nat} {a : Option Addr} {n c : Nat} {L : List PT} (h : W.ownsRow base 90 3 (.slice a n c) L.length (ptC L)) : L.length = 0 ∨ ∃ ad, a = some ad ∧ ∀ j u, (ptC L)[j]? = some u → W.cell? (ad.add j) = some u := by
  by_cases hl : L.length = 0
  · exact .inl hl
  · rcases h.2 with ⟨_, h0⟩ | ⟨g, cap, cur, e, _⟩
    · omega
    · injection e with e1 e2 e3
      subst e1 e2
      refine .inr ⟨_, rfl, fun j u hu => ?_⟩
      have hj : j < (ptC L).length := (List.getElem?_eq_some_iff.1 hu).1
      rw [pt_cells_len] at hj
      rw [addr_add, Nat.zero_add, h.cellAt j hj, hu]
set_option maxRecDepth 100000 in
set_option maxHeartbeats 4000000 in
theorem r6Under_any (v : VO) (r : RY) (hv : v.Ok) (hr : r.Ok) (m : Nat) (hM : IsM v r m) (ga : Option Addr) (gn gc : Nat) (g : Nat → Int) (w : World) (hgn : gn ≤ maxLen) (hG : Ints w.heap.size w ga gn g) (hgr : grB v gn g = true) :
    Calls Tryz.prog 38 #[v.val, .slice ga gn gc, r.val] w (PcRes (prN v r g (m + 1)) w) := by
  have hT := tkF_bound hr
  have hml : (pcN v r (m + 1)).length ≤ 40 := by have h1 := crR_eq hM; have h2 := acL_len v r m; have h3 := crR_len hv hr 3; have h4 := pcN_len v r (m + 1); rw [h1] at h3; omega
  have HPI := Lib.hid (fun (W : World) => r6Pieces_any v r hv hr m hM W)
  have HTK := Lib.hid (fun (W : World) => r6Ticks_any r W hr)
  have HCO := Lib.hid (fun (W : World) => r6Columns_any v hv W)
  have HOK := Lib.hid (fun (i : Nat) (hi : i < (pcN v r (m + 1)).length) => show (0 ≤ ((pcN v r (m + 1)).getD i pt0).cell ∧ ((pcN v r (m + 1)).getD i pt0).cell < v.nx * v.ny * v.nz) ∧ (0 ≤ ((pcN v r (m + 1)).getD i pt0).lo ∧ ((pcN v r (m + 1)).getD i pt0).lo ≤ 43200000000) ∧ (0 ≤ ((pcN v r (m + 1)).getD i pt0).hi ∧ ((pcN v r (m + 1)).getD i pt0).hi ≤ 43200000000) from by
    rw [List.getD_eq_getElem?_getD, List.getElem?_eq_getElem hi]
    exact pc_ok hv hr hM (m + 1) (Nat.le_refl _) _ (List.getElem_mem _))
  have HTA := Lib.hid (fun (i : Nat) (hi : i < (pcN v r (m + 1)).length) => unL_take v r g (pcN v r (m + 1)) hi)
  have HTL := Lib.hid (show unL v r g ((pcN v r (m + 1)).take (pcN v r (m + 1)).length) = prN v r g (m + 1) from by rw [List.take_length]; exact un_eq hv hr hM g (m + 1) (Nat.le_refl _))
  have HTB := Lib.hid (fun (i : Nat) => show (unL v r g ((pcN v r (m + 1)).take i)).length ≤ 40 from by
    have h1 := unL_len v r g ((pcN v r (m + 1)).take i)
    rw [List.length_take] at h1
    omega)
  have HT0 := Lib.hid (show [] = unL v r g ((pcN v r (m + 1)).take 0) from rfl)
  have HU1 := Lib.hid (fun (p : PT) => show un1 v r g p = if 0 < r.dz then cutR p 0 ((g (p.cell.tmod (v.nx * v.ny)).toNat - r.z) * (tkF r : Int).tdiv r.dz) else if r.dz < 0 then cutR p ((g (p.cell.tmod (v.nx * v.ny)).toNat - r.z) * (tkF r : Int).tdiv r.dz) 1000000000000 else if r.z < g (p.cell.tmod (v.nx * v.ny)).toNat then [p] else [] from rfl)
  have HUL := Lib.hid (fun (p : PT) => un1_len v r g p)
  have HMO := Lib.hid (fun (x : Int) (hx : 0 ≤ x) => mod_bound hv hx)
  have HGI := Lib.hid (fun (i : Nat) (hi : i < gn) => gr_ok hv hgr i hi)
  have HGN := Lib.hid ((gr_iff.1 hgr).2)
  have HG := Lib.hid hG
  have HCU := Lib.hid (fun (p : PT) (pb po pc : Nat) (a b : Int) (W : World) h0 h1 h2 => r6Cut_any p pb po pc a b W h0 h1 h2)
  have HRES := Lib.hid (fun (a : Option Addr) (c n : Nat) (P : List PT) (W' : World) (hn : P.length = n) (h0 : P = prN v r g (m + 1)) (h1 : W'.ownsRow w.heap.size 90 3 (.slice a n c) n (ptC P)) (h2 : Below w.heap.size w W') => show PcRes (prN v r g (m + 1)) w (.returned (.slice a n c)) W' from by subst hn; rw [← h0]; exact ⟨a, c, rfl, h1, h2⟩)
  have hrz := hr.z
  have hrd := hr.dz
  have hq := tdiv_abs (tkF r : Int) r.dz 216000 (by omega)
  have hxy : 0 < v.nx * v.ny := Int.mul_pos (by have := hv.x; omega) (by have := hv.y; omega)
  generalize PcRes (prN v r g (m + 1)) w = RES at *
  generalize prN v r g (m + 1) = PR at *
  generalize pcN v r (m + 1) = PN at *
  generalize unL v r g = uL at *
  generalize un1 v r g = u1 at *
  generalize hqq : (tkF r : Int).tdiv r.dz = qd at *
  generalize tkF r = T at *
  unfold RY.val at HTK HPI
  unfold VO.val at HPI HCO
  unfold VO.val RY.val
  generalize v.nx * v.ny = XY at *
  obtain ⟨n, hn⟩ : ∃ n, PN.length = n := ⟨_, rfl⟩
  have HNN := Lib.hid hn
  clear hG hgr hM hv hr
  go_enter Tryz.func38, Tryz.ntmps38
  go_upto_region 1 with (fail)
  (obtain ⟨hVb, e1, e2⟩ := rk_two w (.cells #[.int .i64 v.nx, .int .i64 v.ny, .int .i64 v.nz, .int .i64 v.size] 23) (.cells #[.int .i64 r.x, .int .i64 r.y, .int .i64 r.z, .int .i64 r.dx, .int .i64 r.dy, .int .i64 r.dz] 26))
  have HB := Lib.hid hVb
  have HV := Lib.hid e1
  have HRY := Lib.hid e2
  clear hVb e1 e2
  generalize World.alloc (World.alloc w _) _ = V at *
  (try clear v0 v1 v2 v3 s0 s1 s2 s3 s4 s5); obtain ⟨v0, v1, v2, v3⟩ := cr4 HV.out; obtain ⟨s0, s1, s2, s3, s4, s5⟩ := cr6 HRY.out
  go_upto_region 3 with (go_at_call 81; refine (HPI.out _).mono ?_; rintro e w2 ⟨pa, pc, rfl, hown, hb2⟩; have HOW := Lib.hid hown; (replace HB := Lib.hid (HB.out.trans ((hb2).mono HB.out.size)); replace HV := Lib.hid (bs HV.out hb2); replace HRY := Lib.hid (bs HRY.out hb2); (try clear v0 v1 v2 v3 s0 s1 s2 s3 s4 s5); obtain ⟨v0, v1, v2, v3⟩ := cr4 HV.out; obtain ⟨s0, s1, s2, s3, s4, s5⟩ := cr6 HRY.out); clear hb2 hown)
  rename World => w2
  go_upto_region 4 with (go_at_call 82; refine (HTK.out _).mono ?_; rintro e w3 ⟨rfl, hb2⟩; have HOW3 := Lib.hid (own_below HOW.out hb2); (replace HB := Lib.hid (HB.out.trans ((hb2).mono HB.out.size)); replace HV := Lib.hid (bs HV.out hb2); replace HRY := Lib.hid (bs HRY.out hb2); (try clear v0 v1 v2 v3 s0 s1 s2 s3 s4 s5); obtain ⟨v0, v1, v2, v3⟩ := cr4 HV.out; obtain ⟨s0, s1, s2, s3, s4, s5⟩ := cr6 HRY.out); clear hb2 HOW)
  rename World => w3
  have hcap := own_cap HOW3.out
  have HPW := Lib.hid (pcrow_of HOW3.out)
  rw [hn] at HTA HTL HOK hml hcap
  (try rw [hn])
  clear hn HOW3 v0 v1 v2 v3 s0 s1 s2 s3 s4 s5
  obtain ⟨i0', hi0', hz0, hz1, hz2⟩ := info_parts info_piece
  go_wp2
  go_loopw [7, 10] (fun s7 s10 wr => ∃ (i : Nat) (a : Option Addr) (c k : Nat) (R : List PT), i ≤ n ∧ s10 = .int .i64 (i : Int) ∧ s7 = .slice a k c ∧ Hid (R.length = k ∧ R = uL (PN.take i) ∧ wr.ownsRow w3.heap.size 90 3 (.slice a k c) k (ptC R) ∧ Below w3.heap.size w3 wr)) (fun _ s10 _ => n - (intOf s10).toNat)
  case atStart => exact ⟨0, none, 0, 0, [], by omega, rfl, rfl, Lib.hid ⟨rfl, HT0.out, World.ownsRow_nil _ _ _ _, Below.refl _ _⟩⟩
  case round =>
    obtain ⟨i, a, c, k, R, hi, rfl, rfl, HH⟩ := hrel
    have HBr := Lib.hid (HB.out.trans (HH.out.2.2.2.mono HB.out.size))
    by_cases hlt : i < n
    · have hlt' : (i : Int) < (n : Int) := by omega
      rcases HPW.out with h | ⟨pb, rfl, hpz, hpc⟩
      · have := HNN.out; omega
      obtain ⟨p0, p1, p2⟩ := hpc i (by have := HNN.out; omega)
      obtain ⟨⟨hc1, hc2⟩, ⟨hl1, hl2⟩, ⟨hh1, hh2⟩⟩ := HOK.out i hlt
      have HTi := Lib.hid (HTA.out i hlt)
      have HBi := Lib.hid (HTB.out (i + 1))
      generalize PN.getD i pt0 = p at *
      have HUi := Lib.hid (HU1.out p)
      obtain ⟨q, hmod, hqn⟩ := HMO.out p.cell hc1
      have hgn2 := HGN.out
      obtain ⟨gb, go, rfl, hgl, hgc⟩ := HG.out.get (i := q) (by omega)
      obtain ⟨hg1, hg2⟩ := HGI.out q (by omega)
      rw [hmod, Int.toNat_natCast] at HUi
      have d0 := ((bcell HH.out.2.2.2).1 _ _ hpz).trans p0
      have d1 := ((bcell HH.out.2.2.2).1 _ _ hpz).trans p1
      have d2 := ((bcell HH.out.2.2.2).1 _ _ hpz).trans p2
      have d3 := ((bcell HBr.out).1 _ _ hgl).trans hgc
      have hpz2 : pb < wr.heap.size := Nat.lt_of_lt_of_le hpz HH.out.2.2.2.size
      have hgz2 : gb < wr.heap.size := Nat.lt_of_lt_of_le hgl HBr.out.size
      have HPP := Lib.hid (And.intro p0 (And.intro p1 p2))
      clear p0 p1 p2 hpc hgc
      generalize g q = h at *
      have HVr := Lib.hid ((HH.out.2.2.2.block _ (bl HV.out)).trans HV.out)
      have hvl := (bl HVr.out)
      obtain ⟨v0, v1, v2, v3⟩ := cr4 HVr.out
      have hxn : (XY == 0) = false := beq_eq_false_iff_ne.2 (by omega)
      have hqg : (q : Int) < (gn : Int) := by omega
      have hqg2 : q < gn := by omega
      have hkR := HH.out.1
      have hk40 : k ≤ 40 := by have h1 := HTB.out i; rw [← HH.out.2.1, hkR] at h1; exact h1
      have HOr := Lib.hid HH.out.2.2.1
      have HTR := Lib.hid (show uL (PN.take (i + 1)) = R ++ u1 p from by rw [HTi.out, ← HH.out.2.1])
      have HBR := Lib.hid HH.out.2.2.2
      clear HTi HH
      go_upto_region 7 with (fail)
      (refine wp_region_calm (wr.heap.size) (by kernel_rfl) (by kernel_rfl) ?_; (repeat (first | go_big_quiet_step ((go_at_call 37; exact Calls.calm_of (Nat.le_refl _) (HCO.out _))) | quiet_step ((go_at_call 37; exact Calls.calm_of (Nat.le_refl _) (HCO.out _))))); refine wpQuiet_nil ?_; intro _ hw'; obtain ⟨xq, hw''⟩ := hw'; subst hw'')
      have hb3 := Calm.below xq
      clear d0 d1 d2 d3 v0 v1 v2 v3 hxn hqg hqg2 hmod hvl hgz2 hgl
      have HOy := Lib.hid (own_below HOr.out hb3)
      have HBy := Lib.hid (HBR.out.trans (hb3.mono HBR.out.size))
      clear hb3 HVr HOr HBR
      generalize Calm.val xq = wy at *
      have hrl3 := (bl HRY.out)
      have s2 := cell_of_row _ _ 2 _ _ _ HRY.out
      have s5 := cell_of_row _ _ 5 _ _ _ HRY.out
      have e2 := ((bcell HBy.out).1 _ _ hrl3).trans s2
      have e5 := ((bcell HBy.out).1 _ _ hrl3).trans s5
      by_cases hdz : 0 < r.dz
      · have HU2 := Lib.hid (show u1 p = cutR p 0 ((h - r.z) * qd) from by rw [HUi.out, if_pos hdz])
        have hm1' : True := trivial
        have hm1 := rk_mul_abs (x := h - r.z) (y := qd) (K := 112000) (M := 216000) (by decide) (by decide) (by omega) (by omega)
        have hdn : (r.dz == 0) = false := beq_eq_false_iff_ne.2 (by omega)
        have hdn2 : ¬ r.dz = 0 := by omega
        have hci : ¬ pc = i := by omega
        have HLQ := Lib.hid (show (cutR p 0 ((h - r.z) * qd)).length ≤ 1 from by rw [← HU2.out]; exact HUL.out p)
        have hb63 : k + (cutR p 0 ((h - r.z) * qd)).length ≤ maxLen := by have := HLQ.out; unfold maxLen; omega
        have hb47 : (k + (cutR p 0 ((h - r.z) * qd)).length) * 24 ≤ 140737488355328 := by have := HLQ.out; omega
        clear HLQ
        obtain ⟨j, hj⟩ : ∃ j, j = i + 1 := ⟨_, rfl⟩
        have hwr : IntKind.i64.wrap ((i : Int) + 1) = (j : Int) := by rw [show (i : Int) + 1 = (j : Int) by omega]; exact IntWalk.i64_in _ (by omega)
        have hci2 : j ≤ pc := by omega
        have hci3 : i ≤ j := by omega
        have hci4 : j - i = 1 := by omega
        clear hj
        clear HUi
        generalize hU : (h - r.z) * qd = U at *
        have hw1 : IntKind.i64.wrap (h - r.z) = h - r.z := IntWalk.i64_in _ (by omega)
        have hw2 : IntKind.i64.wrap qd = qd := IntWalk.i64_in _ (by omega)
        have hw3 : IntKind.i64.wrap U = U := IntWalk.i64_in _ (by omega)
        go_upto_region 9 with (fail)
        (refine wp_region_any (by kernel_rfl) ?_; change wpAny _ _ _ _ _ _ _ (World.drew wy); have hS0 : Below w3.heap.size w3 wy.drew := HBy.out.drew; have HOd := Lib.hid (own_below HOy.out (show Below wy.heap.size wy wy.drew from (Below.refl _ _).drew)); clear e2 e5 hc1 hc2 hl1 hl2 hh1 hh2 hm1' HBy HOy hxy hgn; generalize World.drew wy = wd at *; refine any_of_tail 17 17 (fun w' => Below w3.heap.size w3 w') (by kernel_rfl) hS0 (fun hS => ?_); refine headH_take (i := 0) (v := ?_) rfl (by kernel_rfl) (fun _ _ _ h => h) (Or.inl ⟨by rfl, ?_⟩) (by assumption) ?_; rotate_left; (· intro w' hSw; (try dsimp only at hSw); have z2 := ((bcell hSw).1 _ _ hrl3).trans s2; have z5 := ((bcell hSw).1 _ _ hrl3).trans s5; clear hSw; (try simp only [hng]); go_simp; (try with_reducible rfl)); (try simp only [hng]); (try dsimp only [Act.put]); (try simp only [hns]); refine headH_take (i := 1) (v := ?_) rfl (by kernel_rfl) (fun _ _ _ h => h) (Or.inl ⟨by rfl, ?_⟩) (by assumption) ?_; rotate_left; (· intro w' hSw; (try dsimp only at hSw); have z2 := ((bcell hSw).1 _ _ hrl3).trans s2; have z5 := ((bcell hSw).1 _ _ hrl3).trans s5; clear hSw; (try simp only [hng]); go_simp; (try with_reducible rfl)); (try simp only [hng]); (try dsimp only [Act.put]); (try simp only [hns]); refine headH_take (i := 2) (v := ?_) rfl (by kernel_rfl) (fun _ _ _ h => h) (Or.inl ⟨by rfl, ?_⟩) (by assumption) ?_; rotate_left; (· intro w' hSw; (try dsimp only at hSw); have z2 := ((bcell hSw).1 _ _ hrl3).trans s2; have z5 := ((bcell hSw).1 _ _ hrl3).trans s5; clear hSw; (try simp only [hng]); go_simp; (try with_reducible rfl)); (try simp only [hng]); (try dsimp only [Act.put]); (try simp only [hns]); refine headH_take (i := 3) (v := ?_) rfl (by kernel_rfl) (fun _ _ _ h => h) (Or.inl ⟨by rfl, ?_⟩) (by assumption) ?_; rotate_left; (· intro w' hSw; (try dsimp only at hSw); have z2 := ((bcell hSw).1 _ _ hrl3).trans s2; have z5 := ((bcell hSw).1 _ _ hrl3).trans s5; clear hSw; (try simp only [hng]); go_simp; (try with_reducible rfl)); (try simp only [hng]); (try dsimp only [Act.put]); (try simp only [hns]); refine headH_take (i := 4) (v := ?_) rfl (by kernel_rfl) (fun _ _ _ h => h) (Or.inl ⟨by rfl, ?_⟩) (by assumption) ?_; rotate_left; (· intro w' hSw; (try dsimp only at hSw); have z2 := ((bcell hSw).1 _ _ hrl3).trans s2; have z5 := ((bcell hSw).1 _ _ hrl3).trans s5; clear hSw; (try simp only [hng]); go_simp; (try with_reducible rfl)); (try simp only [hng]); (try dsimp only [Act.put]); (try simp only [hns]); refine headH_take (i := 5) (v := ?_) rfl (by kernel_rfl) (fun _ _ _ h => h) (Or.inl ⟨by rfl, ?_⟩) (by assumption) ?_; rotate_left; (· intro w' hSw; (try dsimp only at hSw); have z2 := ((bcell hSw).1 _ _ hrl3).trans s2; have z5 := ((bcell hSw).1 _ _ hrl3).trans s5; clear hSw; (try simp only [hng]); go_simp; (try with_reducible rfl)); (try simp only [hng]); (try dsimp only [Act.put]); (try simp only [hns]); refine headH_take (i := 6) (v := ?_) rfl (by kernel_rfl) (fun _ _ _ h => h) (Or.inl ⟨by rfl, ?_⟩) (by assumption) ?_; rotate_left; (· intro w' hSw; (try dsimp only at hSw); have z2 := ((bcell hSw).1 _ _ hrl3).trans s2; have z5 := ((bcell hSw).1 _ _ hrl3).trans s5; clear hSw; (try simp only [hng]); go_simp; (try with_reducible rfl)); (try simp only [hng]); (try dsimp only [Act.put]); (try simp only [hns]); refine headH_take (i := 7) (v := ?_) rfl (by kernel_rfl) (fun _ _ _ h => h) (Or.inl ⟨by rfl, ?_⟩) (by assumption) ?_; rotate_left; (· intro w' hSw; (try dsimp only at hSw); have z2 := ((bcell hSw).1 _ _ hrl3).trans s2; have z5 := ((bcell hSw).1 _ _ hrl3).trans s5; clear hSw; (try simp only [hng]); go_simp; (try with_reducible rfl)); (try simp only [hng]); (try dsimp only [Act.put]); (try simp only [hns]); refine headH_take (i := 8) (v := ?_) rfl (by kernel_rfl) (fun _ _ _ h => h) (Or.inl ⟨by rfl, ?_⟩) (by assumption) ?_; rotate_left; (· intro w' hSw; (try dsimp only at hSw); have z2 := ((bcell hSw).1 _ _ hrl3).trans s2; have z5 := ((bcell hSw).1 _ _ hrl3).trans s5; clear hSw; (try simp only [hng]); go_simp; (try with_reducible rfl)); (try simp only [hng]); (try dsimp only [Act.put]); (try simp only [hns]); refine headH_take (i := 9) (v := ?_) rfl (by kernel_rfl) (fun _ _ _ h => h) (Or.inl ⟨by rfl, ?_⟩) (by assumption) ?_; rotate_left; (· intro w' hSw; (try dsimp only at hSw); have z2 := ((bcell hSw).1 _ _ hrl3).trans s2; have z5 := ((bcell hSw).1 _ _ hrl3).trans s5; clear hSw; (try simp only [hng]); go_simp; (try with_reducible rfl)); (try simp only [hng]); (try dsimp only [Act.put]); (try simp only [hns]); refine headH_take (i := 10) (v := ?_) rfl (by kernel_rfl) (fun _ _ _ h => h) (Or.inl ⟨by rfl, ?_⟩) (by assumption) ?_; rotate_left; (· intro w' hSw; (try dsimp only at hSw); have z2 := ((bcell hSw).1 _ _ hrl3).trans s2; have z5 := ((bcell hSw).1 _ _ hrl3).trans s5; clear hSw; (try simp only [hng]); go_simp; (try with_reducible rfl)); (try simp only [hng]); (try dsimp only [Act.put]); (try simp only [hns]); refine headH_take (i := 11) (v := ?_) rfl (by kernel_rfl) (fun _ _ _ h => h) (Or.inl ⟨by rfl, ?_⟩) (by assumption) ?_; rotate_left; (· intro w' hSw; (try dsimp only at hSw); have z2 := ((bcell hSw).1 _ _ hrl3).trans s2; have z5 := ((bcell hSw).1 _ _ hrl3).trans s5; clear hSw; (try simp only [hng]); go_simp; (try with_reducible rfl)); (try simp only [hng]); (try dsimp only [Act.put]); (try simp only [hns]); refine headH_take (i := 12) (v := ?_) rfl (by kernel_rfl) (fun _ _ _ h => h) (Or.inl ⟨by rfl, ?_⟩) (by assumption) ?_; rotate_left; (· intro w' hSw; (try dsimp only at hSw); have z2 := ((bcell hSw).1 _ _ hrl3).trans s2; have z5 := ((bcell hSw).1 _ _ hrl3).trans s5; clear hSw; (try simp only [hng]); go_simp; (try with_reducible rfl)); (try simp only [hng]); (try dsimp only [Act.put]); (try simp only [hns]); refine headH_take (i := 13) (v := ?_) rfl (by kernel_rfl) (fun _ _ _ h => h) (Or.inl ⟨by rfl, ?_⟩) (by assumption) ?_; rotate_left; (· intro w' hSw; (try dsimp only at hSw); have z2 := ((bcell hSw).1 _ _ hrl3).trans s2; have z5 := ((bcell hSw).1 _ _ hrl3).trans s5; clear hSw; (try simp only [hng]); go_simp; (try with_reducible rfl)); (try simp only [hng]); (try dsimp only [Act.put]); (try simp only [hns]); refine headH_take (i := 14) (v := ?_) rfl (by kernel_rfl) (fun _ _ _ h => h) (Or.inl ⟨by rfl, ?_⟩) (by assumption) ?_; rotate_left; (· intro w' hSw; (try dsimp only at hSw); have z2 := ((bcell hSw).1 _ _ hrl3).trans s2; have z5 := ((bcell hSw).1 _ _ hrl3).trans s5; clear hSw; (try simp only [hng]); go_simp; (try with_reducible rfl)); (try simp only [hng]); (try dsimp only [Act.put]); (try simp only [hns]); clear hwr hci2 hci3 hci4 hw1 hw2 hw3 hU; have HC3 := Lib.hid (HCU.out p pb (i * 3) (pc - i) 0 U wd (((bcell hS0).1 _ _ hpz).trans HPP.out.1) (((bcell hS0).1 _ _ hpz).trans HPP.out.2.1) (((bcell hS0).1 _ _ hpz).trans HPP.out.2.2)); generalize cutR p 0 U = Q at *; refine headH_all (rs := [15]) (by kernel_rfl) (by simp) (by kernel_rfl) ?_; intro i0 hi0; simp only [List.mem_cons, List.not_mem_nil, or_false] at hi0; subst hi0; refine headH_op rfl (fun K hK => ?_); (try simp only [hng]); go_simp; refine HC3.out.mono ?_; rintro e w8 ⟨a8, c8, rfl, ho8, hb8⟩; have HQ8 := Lib.hid ho8; have HO8 := Lib.hid (own_below HOd.out hb8); have HS8 := Lib.hid (hS0.trans (hb8.mono hS0.size)); clear ho8 hb8; refine hK.out _ _ HS8.out (fun hS => ?_); clear hK K; (try simp only [hng]); (try dsimp only [Act.put]); (try simp only [hns]); refine headH_all (rs := [16]) (by kernel_rfl) (by simp) (by kernel_rfl) ?_; intro i0 hi0; simp only [List.mem_cons, List.not_mem_nil, or_false] at hi0; subst hi0; refine headH_op rfl (fun K hK => ?_); refine step_append_src rfl _ _ 87 rfl w3.heap.size 90 i0' _ 3 24 Tryz.underlying87 hi0' hz0 hz1 hz2 rfl (by decide) (.slice a k c) k (ptC R) rfl HO8.out _ Q.length _ (ptC Q) rfl (pt_cells_len Q) (pc_src HQ8.out) (pt_cells_one Q) hb63 hb47 HS8.out.size ?_; intro v9 w9 hown9 hgrow9; have HO9 := Lib.hid hown9; have HS9 := Lib.hid (show Below w3.heap.size w3 w9 from HS8.out.grown hgrow9 HS8.out.size (fun b e => (HO8.out.lt b e).1)); clear hown9 hgrow9; refine hK.out _ _ HS9.out (fun hS => ?_); clear hK K; (try simp only [hng]); (try dsimp only [Act.put]); (try simp only [hns]); change tailL _ _ _ _ _ _ _ _; refine ⟨by kernel_rfl, ?_⟩; simp only [List.drop_succ_cons, List.drop_zero]; obtain ⟨a9, c9, rfl⟩ := own_len HO9.out; have HR9 := Lib.hid (show (R ++ Q).length = k + Q.length from by rw [List.length_append, hkR]); have HR8 := Lib.hid (show R ++ Q = uL (PN.take (i + 1)) from by rw [HTR.out, HU2.out]); generalize k + Q.length = kk at *; go_wp2; go_roundw; (case rel => exact ⟨i + 1, a9, c9, kk, R ++ Q, (by omega), (by go_num), rfl, Lib.hid ⟨HR9.out, HR8.out, (by rw [ptC_append]; exact HO9.out), HS9.out⟩⟩); (case measure => (simp [intOf]; omega)))
      by_cases hdy : r.dz < 0
      · have HU2 := Lib.hid (show u1 p = cutR p ((h - r.z) * qd) 1000000000000 from by rw [HUi.out, if_neg hdz, if_pos hdy])
        have hm1' : True := trivial
        have hm1 := rk_mul_abs (x := h - r.z) (y := qd) (K := 112000) (M := 216000) (by decide) (by decide) (by omega) (by omega)
        have hdn : (r.dz == 0) = false := beq_eq_false_iff_ne.2 (by omega)
        have hdn2 : ¬ r.dz = 0 := by omega
        have hci : ¬ pc = i := by omega
        have HLQ := Lib.hid (show (cutR p ((h - r.z) * qd) 1000000000000).length ≤ 1 from by rw [← HU2.out]; exact HUL.out p)
        have hb63 : k + (cutR p ((h - r.z) * qd) 1000000000000).length ≤ maxLen := by have := HLQ.out; unfold maxLen; omega
        have hb47 : (k + (cutR p ((h - r.z) * qd) 1000000000000).length) * 24 ≤ 140737488355328 := by have := HLQ.out; omega
        clear HLQ
        obtain ⟨j, hj⟩ : ∃ j, j = i + 1 := ⟨_, rfl⟩
        have hwr : IntKind.i64.wrap ((i : Int) + 1) = (j : Int) := by rw [show (i : Int) + 1 = (j : Int) by omega]; exact IntWalk.i64_in _ (by omega)
        have hci2 : j ≤ pc := by omega
        have hci3 : i ≤ j := by omega
        have hci4 : j - i = 1 := by omega
        clear hj
        clear HUi
        generalize hU : (h - r.z) * qd = U at *
        have hw1 : IntKind.i64.wrap (h - r.z) = h - r.z := IntWalk.i64_in _ (by omega)
        have hw2 : IntKind.i64.wrap qd = qd := IntWalk.i64_in _ (by omega)
        have hw3 : IntKind.i64.wrap U = U := IntWalk.i64_in _ (by omega)
        go_upto_region 11 with (fail)
        (refine wp_region_any (by kernel_rfl) ?_; change wpAny _ _ _ _ _ _ _ (World.drew wy); have hS0 : Below w3.heap.size w3 wy.drew := HBy.out.drew; have HOd := Lib.hid (own_below HOy.out (show Below wy.heap.size wy wy.drew from (Below.refl _ _).drew)); clear e2 e5 hc1 hc2 hl1 hl2 hh1 hh2 hm1' HBy HOy hxy hgn; generalize World.drew wy = wd at *; refine any_of_tail 17 17 (fun w' => Below w3.heap.size w3 w') (by kernel_rfl) hS0 (fun hS => ?_); refine headH_take (i := 0) (v := ?_) rfl (by kernel_rfl) (fun _ _ _ h => h) (Or.inl ⟨by rfl, ?_⟩) (by assumption) ?_; rotate_left; (· intro w' hSw; (try dsimp only at hSw); have z2 := ((bcell hSw).1 _ _ hrl3).trans s2; have z5 := ((bcell hSw).1 _ _ hrl3).trans s5; clear hSw; (try simp only [hng]); go_simp; (try with_reducible rfl)); (try simp only [hng]); (try dsimp only [Act.put]); (try simp only [hns]); refine headH_take (i := 1) (v := ?_) rfl (by kernel_rfl) (fun _ _ _ h => h) (Or.inl ⟨by rfl, ?_⟩) (by assumption) ?_; rotate_left; (· intro w' hSw; (try dsimp only at hSw); have z2 := ((bcell hSw).1 _ _ hrl3).trans s2; have z5 := ((bcell hSw).1 _ _ hrl3).trans s5; clear hSw; (try simp only [hng]); go_simp; (try with_reducible rfl)); (try simp only [hng]); (try dsimp only [Act.put]); (try simp only [hns]); refine headH_take (i := 2) (v := ?_) rfl (by kernel_rfl) (fun _ _ _ h => h) (Or.inl ⟨by rfl, ?_⟩) (by assumption) ?_; rotate_left; (· intro w' hSw; (try dsimp only at hSw); have z2 := ((bcell hSw).1 _ _ hrl3).trans s2; have z5 := ((bcell hSw).1 _ _ hrl3).trans s5; clear hSw; (try simp only [hng]); go_simp; (try with_reducible rfl)); (try simp only [hng]); (try dsimp only [Act.put]); (try simp only [hns]); refine headH_take (i := 3) (v := ?_) rfl (by kernel_rfl) (fun _ _ _ h => h) (Or.inl ⟨by rfl, ?_⟩) (by assumption) ?_; rotate_left; (· intro w' hSw; (try dsimp only at hSw); have z2 := ((bcell hSw).1 _ _ hrl3).trans s2; have z5 := ((bcell hSw).1 _ _ hrl3).trans s5; clear hSw; (try simp only [hng]); go_simp; (try with_reducible rfl)); (try simp only [hng]); (try dsimp only [Act.put]); (try simp only [hns]); refine headH_take (i := 4) (v := ?_) rfl (by kernel_rfl) (fun _ _ _ h => h) (Or.inl ⟨by rfl, ?_⟩) (by assumption) ?_; rotate_left; (· intro w' hSw; (try dsimp only at hSw); have z2 := ((bcell hSw).1 _ _ hrl3).trans s2; have z5 := ((bcell hSw).1 _ _ hrl3).trans s5; clear hSw; (try simp only [hng]); go_simp; (try with_reducible rfl)); (try simp only [hng]); (try dsimp only [Act.put]); (try simp only [hns]); refine headH_take (i := 5) (v := ?_) rfl (by kernel_rfl) (fun _ _ _ h => h) (Or.inl ⟨by rfl, ?_⟩) (by assumption) ?_; rotate_left; (· intro w' hSw; (try dsimp only at hSw); have z2 := ((bcell hSw).1 _ _ hrl3).trans s2; have z5 := ((bcell hSw).1 _ _ hrl3).trans s5; clear hSw; (try simp only [hng]); go_simp; (try with_reducible rfl)); (try simp only [hng]); (try dsimp only [Act.put]); (try simp only [hns]); refine headH_take (i := 6) (v := ?_) rfl (by kernel_rfl) (fun _ _ _ h => h) (Or.inl ⟨by rfl, ?_⟩) (by assumption) ?_; rotate_left; (· intro w' hSw; (try dsimp only at hSw); have z2 := ((bcell hSw).1 _ _ hrl3).trans s2; have z5 := ((bcell hSw).1 _ _ hrl3).trans s5; clear hSw; (try simp only [hng]); go_simp; (try with_reducible rfl)); (try simp only [hng]); (try dsimp only [Act.put]); (try simp only [hns]); refine headH_take (i := 7) (v := ?_) rfl (by kernel_rfl) (fun _ _ _ h => h) (Or.inl ⟨by rfl, ?_⟩) (by assumption) ?_; rotate_left; (· intro w' hSw; (try dsimp only at hSw); have z2 := ((bcell hSw).1 _ _ hrl3).trans s2; have z5 := ((bcell hSw).1 _ _ hrl3).trans s5; clear hSw; (try simp only [hng]); go_simp; (try with_reducible rfl)); (try simp only [hng]); (try dsimp only [Act.put]); (try simp only [hns]); refine headH_take (i := 8) (v := ?_) rfl (by kernel_rfl) (fun _ _ _ h => h) (Or.inl ⟨by rfl, ?_⟩) (by assumption) ?_; rotate_left; (· intro w' hSw; (try dsimp only at hSw); have z2 := ((bcell hSw).1 _ _ hrl3).trans s2; have z5 := ((bcell hSw).1 _ _ hrl3).trans s5; clear hSw; (try simp only [hng]); go_simp; (try with_reducible rfl)); (try simp only [hng]); (try dsimp only [Act.put]); (try simp only [hns]); refine headH_take (i := 9) (v := ?_) rfl (by kernel_rfl) (fun _ _ _ h => h) (Or.inl ⟨by rfl, ?_⟩) (by assumption) ?_; rotate_left; (· intro w' hSw; (try dsimp only at hSw); have z2 := ((bcell hSw).1 _ _ hrl3).trans s2; have z5 := ((bcell hSw).1 _ _ hrl3).trans s5; clear hSw; (try simp only [hng]); go_simp; (try with_reducible rfl)); (try simp only [hng]); (try dsimp only [Act.put]); (try simp only [hns]); refine headH_take (i := 10) (v := ?_) rfl (by kernel_rfl) (fun _ _ _ h => h) (Or.inl ⟨by rfl, ?_⟩) (by assumption) ?_; rotate_left; (· intro w' hSw; (try dsimp only at hSw); have z2 := ((bcell hSw).1 _ _ hrl3).trans s2; have z5 := ((bcell hSw).1 _ _ hrl3).trans s5; clear hSw; (try simp only [hng]); go_simp; (try with_reducible rfl)); (try simp only [hng]); (try dsimp only [Act.put]); (try simp only [hns]); refine headH_take (i := 11) (v := ?_) rfl (by kernel_rfl) (fun _ _ _ h => h) (Or.inl ⟨by rfl, ?_⟩) (by assumption) ?_; rotate_left; (· intro w' hSw; (try dsimp only at hSw); have z2 := ((bcell hSw).1 _ _ hrl3).trans s2; have z5 := ((bcell hSw).1 _ _ hrl3).trans s5; clear hSw; (try simp only [hng]); go_simp; (try with_reducible rfl)); (try simp only [hng]); (try dsimp only [Act.put]); (try simp only [hns]); refine headH_take (i := 12) (v := ?_) rfl (by kernel_rfl) (fun _ _ _ h => h) (Or.inl ⟨by rfl, ?_⟩) (by assumption) ?_; rotate_left; (· intro w' hSw; (try dsimp only at hSw); have z2 := ((bcell hSw).1 _ _ hrl3).trans s2; have z5 := ((bcell hSw).1 _ _ hrl3).trans s5; clear hSw; (try simp only [hng]); go_simp; (try with_reducible rfl)); (try simp only [hng]); (try dsimp only [Act.put]); (try simp only [hns]); refine headH_take (i := 13) (v := ?_) rfl (by kernel_rfl) (fun _ _ _ h => h) (Or.inl ⟨by rfl, ?_⟩) (by assumption) ?_; rotate_left; (· intro w' hSw; (try dsimp only at hSw); have z2 := ((bcell hSw).1 _ _ hrl3).trans s2; have z5 := ((bcell hSw).1 _ _ hrl3).trans s5; clear hSw; (try simp only [hng]); go_simp; (try with_reducible rfl)); (try simp only [hng]); (try dsimp only [Act.put]); (try simp only [hns]); refine headH_take (i := 14) (v := ?_) rfl (by kernel_rfl) (fun _ _ _ h => h) (Or.inl ⟨by rfl, ?_⟩) (by assumption) ?_; rotate_left; (· intro w' hSw; (try dsimp only at hSw); have z2 := ((bcell hSw).1 _ _ hrl3).trans s2; have z5 := ((bcell hSw).1 _ _ hrl3).trans s5; clear hSw; (try simp only [hng]); go_simp; (try with_reducible rfl)); (try simp only [hng]); (try dsimp only [Act.put]); (try simp only [hns]); clear hwr hci2 hci3 hci4 hw1 hw2 hw3 hU; have HC3 := Lib.hid (HCU.out p pb (i * 3) (pc - i) U 1000000000000 wd (((bcell hS0).1 _ _ hpz).trans HPP.out.1) (((bcell hS0).1 _ _ hpz).trans HPP.out.2.1) (((bcell hS0).1 _ _ hpz).trans HPP.out.2.2)); generalize cutR p U 1000000000000 = Q at *; refine headH_all (rs := [15]) (by kernel_rfl) (by simp) (by kernel_rfl) ?_; intro i0 hi0; simp only [List.mem_cons, List.not_mem_nil, or_false] at hi0; subst hi0; refine headH_op rfl (fun K hK => ?_); (try simp only [hng]); go_simp; refine HC3.out.mono ?_; rintro e w8 ⟨a8, c8, rfl, ho8, hb8⟩; have HQ8 := Lib.hid ho8; have HO8 := Lib.hid (own_below HOd.out hb8); have HS8 := Lib.hid (hS0.trans (hb8.mono hS0.size)); clear ho8 hb8; refine hK.out _ _ HS8.out (fun hS => ?_); clear hK K; (try simp only [hng]); (try dsimp only [Act.put]); (try simp only [hns]); refine headH_all (rs := [16]) (by kernel_rfl) (by simp) (by kernel_rfl) ?_; intro i0 hi0; simp only [List.mem_cons, List.not_mem_nil, or_false] at hi0; subst hi0; refine headH_op rfl (fun K hK => ?_); refine step_append_src rfl _ _ 87 rfl w3.heap.size 90 i0' _ 3 24 Tryz.underlying87 hi0' hz0 hz1 hz2 rfl (by decide) (.slice a k c) k (ptC R) rfl HO8.out _ Q.length _ (ptC Q) rfl (pt_cells_len Q) (pc_src HQ8.out) (pt_cells_one Q) hb63 hb47 HS8.out.size ?_; intro v9 w9 hown9 hgrow9; have HO9 := Lib.hid hown9; have HS9 := Lib.hid (show Below w3.heap.size w3 w9 from HS8.out.grown hgrow9 HS8.out.size (fun b e => (HO8.out.lt b e).1)); clear hown9 hgrow9; refine hK.out _ _ HS9.out (fun hS => ?_); clear hK K; (try simp only [hng]); (try dsimp only [Act.put]); (try simp only [hns]); change tailL _ _ _ _ _ _ _ _; refine ⟨by kernel_rfl, ?_⟩; simp only [List.drop_succ_cons, List.drop_zero]; obtain ⟨a9, c9, rfl⟩ := own_len HO9.out; have HR9 := Lib.hid (show (R ++ Q).length = k + Q.length from by rw [List.length_append, hkR]); have HR8 := Lib.hid (show R ++ Q = uL (PN.take (i + 1)) from by rw [HTR.out, HU2.out]); generalize k + Q.length = kk at *; go_wp2; go_roundw; (case rel => exact ⟨i + 1, a9, c9, kk, R ++ Q, (by omega), (by go_num), rfl, Lib.hid ⟨HR9.out, HR8.out, (by rw [ptC_append]; exact HO9.out), HS9.out⟩⟩); (case measure => (simp [intOf]; omega)))
      have hd0 : ¬ 0 < r.dz := hdz
      have hd1 : ¬ r.dz < 0 := hdy
      by_cases hzh : r.z < h
      · have HU2 := Lib.hid (show u1 p = [p] from by rw [HUi.out, if_neg hdz, if_neg hdy, if_pos hzh])
        have hb63 : k + 1 ≤ maxLen := by unfold maxLen; omega
        have hb47 : (k + 1) * 24 ≤ 140737488355328 := by omega
        have HR8 := Lib.hid (show R ++ [p] = uL (PN.take (i + 1)) from by rw [HTR.out, HU2.out])
        have HR9 := Lib.hid (show (R ++ [p]).length = k + 1 from by rw [List.length_append, hkR]; rfl)
        have f0 := ((bcell HBy.out).1 _ _ hpz).trans HPP.out.1
        have f1 := ((bcell HBy.out).1 _ _ hpz).trans HPP.out.2.1
        have f2 := ((bcell HBy.out).1 _ _ hpz).trans HPP.out.2.2
        clear HUi HTR
        go_upto_region 13 with (fail)
        go_wp2_with (at_builtin; refine wpList_append_lies _ rfl _ _ 87 rfl w3.heap.size 90 i0' _ 3 24 Tryz.underlying87 hi0' hz0 hz1 hz2 rfl (by decide) (.slice a k c) k (ptC R) rfl (HOy.out.alloc _) ⟨wy.heap.size, 0, none⟩ 1 1 [.int .i64 p.cell, .int .i64 p.lo, .int .i64 p.hi] rfl rfl (World.news_of_block (heap_alloc_new wy (.cells #[.int .i64 p.cell, .int .i64 p.lo, .int .i64 p.hi] 90))) pt_one (by decide) hb63 hb47 (by have := HBy.out.size; simp; omega) _ rfl ?_; intro g1 p1 w9 hown9 hgrow9 hat9 hlt9; have HO9 := Lib.hid hown9; have HS9 := Lib.hid (show Below w3.heap.size w3 w9 from (HBy.out.alloc HBy.out.size _).grown hgrow9 (by have := HBy.out.size; simp; omega) (fun b e => (HOy.out.lt b e).1)); clear hown9 hgrow9 hat9 hlt9)
        go_roundw
        case rel => exact ⟨i + 1, some ⟨g1, 0, none⟩, p1, k + 1, R ++ [p], (by omega), (by go_num), rfl, Lib.hid ⟨HR9.out, HR8.out, (by rw [ptC_append, ptC_one]; exact HO9.out), HS9.out⟩⟩
        case measure => simp [intOf]; omega
      · have HU2 := Lib.hid (show u1 p = [] from by rw [HUi.out, if_neg hdz, if_neg hdy, if_neg hzh])
        have HR8 := Lib.hid (show R = uL (PN.take (i + 1)) from by rw [HTR.out, HU2.out, List.append_nil])
        clear HUi HTR
        go_wp2
        go_roundw
        case rel => exact ⟨i + 1, a, c, k, R, (by omega), (by go_num), rfl, Lib.hid ⟨hkR, HR8.out, HOy.out, HBy.out⟩⟩
        case measure => simp [intOf]; omega
    · obtain rfl : i = n := by omega
      have hlt' : ¬ (i : Int) < (i : Int) := by omega
      have HRR := Lib.hid (HRES.out a c k R wr HH.out.1 (by rw [HH.out.2.1, HTL.out]) (own_base HH.out.2.2.1 HB.out.size) HBr.out)
      go_wp2
      exact HRR.out
end Go.Proofs.YtkdopjkdokgipaaGreatDoor
namespace Go.Proofs.YtkdopjkdokgipaaGreatDoor
open Go.RowKit Go.Shelf
set_option linter.unusedVariables false
set_option linter.unusedSimpArgs false
/-- the beam's box x lies below N, its rows from N on; all else below N is kept -/
structure ShU (x N : Nat) (lo hi : Int) (S : List CH) (Wb wr : World) : Prop where
  eqs : wr.os = Wb.os ∧ wr.tape = Wb.tape ∧ wr.output = Wb.output
  lt : x < N
  size : N ≤ wr.heap.size
  keep : ∀ b, b < N → b ≠ x → wr.heap[b]? = Wb.heap[b]?
  row : ∃ ca cc wa wc, wr.heap[x]? = some (.cells #[.slice ca S.length cc, .slice wa S.length wc, .int .i64 lo, .int .i64 hi] 31) ∧ wr.ownsRow N 3 1 (.slice ca S.length cc) S.length (clC S) ∧ wr.ownsRow N 3 1 (.slice wa S.length wc) S.length (wtC S) ∧ ∀ b, (Value.slice ca S.length cc).ownBlock = some b → (Value.slice wa S.length wc).ownBlock ≠ some b
theorem ShU.step {x N : Nat} {lo hi : Int} {S : List CH} {Wb wr W : World} (h : ShU x N lo hi S Wb wr) (hb : Below wr.heap.size wr W) : ShU x N lo hi S Wb W := by
  obtain ⟨h1, h2, h3, h4, ca, cc, wa, wc, h5, h6, h7, h8⟩ := h
  refine ⟨⟨hb.os.trans h1.1, hb.tape.trans h1.2.1, hb.output.trans h1.2.2⟩, h2, Nat.le_trans h3 hb.size, fun b k1 k2 => (hb.block b (by omega)).trans (h4 b k1 k2), ca, cc, wa, wc, (hb.block x (by omega)).trans h5, own_below h6 hb, own_below h7 hb, h8⟩
theorem ShU.next {x N : Nat} {lo hi : Int} {S : List CH} {Wb W0 W : World} {y : CH} {c0 w0 : Value} {g1 p1 g2 p2 : Nat} (he : W0.os = Wb.os ∧ W0.tape = Wb.tape ∧ W0.output = Wb.output) (hx : x < N) (hk : ∀ b, b < N → b ≠ x → W0.heap[b]? = Wb.heap[b]?) (hlow : ∀ b, c0.ownBlock = some b ∨ w0.ownBlock = some b → N ≤ b)
    (hbox : W0.heap[x]? = some (.cells #[c0, w0, .int .i64 lo, .int .i64 hi] 31))
    (h : BP N W0 W c0 w0 (.slice (some ⟨g1, 0, none⟩) (S.length + 1) p1) (.slice (some ⟨g2, 0, none⟩) (S.length + 1) p2) (S.length + 1) (S.length + 1) (clC S ++ [.int .i64 y.1]) (wtC S ++ [.int .i64 y.2])) :
    ShU x N lo hi (S ++ [y]) Wb ((W.setCell ⟨x, 0, none⟩ (.slice (some ⟨g1, 0, none⟩) (S.length + 1) p1)).setCell ⟨x, 1, none⟩ (.slice (some ⟨g2, 0, none⟩) (S.length + 1) p2)) := by
  have hxl := (bl hbox)
  have hz := h.size
  have hle := h.le
  have k0 := (h.keep x hxl (fun e => by have := hlow x (.inl e); omega) (fun e => by have := hlow x (.inr e); omega)).trans hbox
  have k1 := heap_setCell_same W x 0 _ _ (.slice (some ⟨g1, 0, none⟩) (S.length + 1) p1) k0
  have k2 := heap_setCell_same _ x 1 _ _ (.slice (some ⟨g2, 0, none⟩) (S.length + 1) p2) k1
  have far : ∀ b, b ≠ x → ((W.setCell ⟨x, 0, none⟩ (.slice (some ⟨g1, 0, none⟩) (S.length + 1) p1)).setCell ⟨x, 1, none⟩ (.slice (some ⟨g2, 0, none⟩) (S.length + 1) p2)).heap[b]? = W.heap[b]? := fun b hb =>
    (heap_setCell_other _ ⟨x, 1, none⟩ b _ hb).trans (heap_setCell_other W ⟨x, 0, none⟩ b _ hb)
  have hlen : (S ++ [y]).length = S.length + 1 := by simp
  have hc : clC (S ++ [y]) = clC S ++ [.int .i64 y.1] := by simp [clC]
  have hw : wtC (S ++ [y]) = wtC S ++ [.int .i64 y.2] := by simp [wtC]
  refine ⟨⟨h.eqs.1.trans he.1, h.eqs.2.1.trans he.2.1, h.eqs.2.2.trans he.2.2⟩, hx, ?_, fun b hb hn => ?_, some ⟨g1, 0, none⟩, p1, some ⟨g2, 0, none⟩, p2, ?_, ?_, ?_, ?_⟩
  · rw [World.size_setCell, World.size_setCell]; omega
  · refine (far b hn).trans ((h.keep b (by omega) (fun e => ?_) (fun e => ?_)).trans (hk b hb hn))
    · have := hlow b (.inl e); omega
    · have := hlow b (.inr e); omega
  · rw [hlen]; exact k2
  · rw [hlen, hc]; exact own_keep h.cown (fun b hb => far b (by have := own_block_le h.cown hb; omega))
  · rw [hlen, hw]; exact own_keep h.wown (fun b hb => far b (by have := own_block_le h.wown hb; omega))
  · rw [hlen]; exact h.dis
theorem ShU.start {x : Nat} {lo hi : Int} {Wb : World} (hx : x < Wb.heap.size) (hbox : Wb.heap[x]? = some (.cells #[.slice none 0 0, .slice none 0 0, .int .i64 lo, .int .i64 hi] 31)) : ShU x Wb.heap.size lo hi [] Wb Wb :=
  ⟨⟨rfl, rfl, rfl⟩, hx, Nat.le_refl _, fun _ _ _ => rfl, none, 0, none, 0, hbox, World.ownsRow_nil _ _ _ _, World.ownsRow_nil _ _ _ _, fun b hb => by simp [Value.ownBlock] at hb⟩
/-- what lies below N but for the box -/
theorem ShU.bel {x N : Nat} {lo hi : Int} {S : List CH} {w Wb wr : World} (h : ShU x N lo hi S Wb wr) (hb : Below w.heap.size w Wb) (hx : w.heap.size ≤ x) : Below w.heap.size w wr :=
  ⟨h.eqs.1.trans hb.os, h.eqs.2.1.trans hb.tape, h.eqs.2.2.trans hb.output, by have := h.size; have := h.lt; omega, fun b k => (h.keep b (by have := h.lt; omega) (by omega)).trans (hb.block b k)⟩
end Go.Proofs.YtkdopjkdokgipaaGreatDoor
namespace Go.Proofs.YtkdopjkdokgipaaGreatDoor
open Go.RowKit Go.Shelf
set_option linter.unusedVariables false
set_option linter.unusedSimpArgs false
/-- what the document's Shine hands back -/
def RSh (P : List PT) (N : Nat) (lo hi : Int) (w : World) (e : Ending) (w' : World) : Prop :=
  Below w.heap.size w w' ∧
    (((∀ x ∈ chsR P, x.2 ≤ 1000000) ∧ ∃ ca cc wa wc, e = .returned (.tuple #[.agg #[.slice ca (shR (chsR P) N).length cc, .slice wa (shR (chsR P) N).length wc, .int .i64 lo, .int .i64 hi], .bool true]) ∧ w'.ownsRow w.heap.size 3 1 (.slice ca (shR (chsR P) N).length cc) (shR (chsR P) N).length (clC (shR (chsR P) N)) ∧ w'.ownsRow w.heap.size 3 1 (.slice wa (shR (chsR P) N).length wc) (shR (chsR P) N).length (wtC (shR (chsR P) N))) ∨
     ((∃ x ∈ chsR P, 1000000 < x.2) ∧ e = .returned (.tuple #[.agg #[.slice none 0 0, .slice none 0 0, .int .i64 0, .int .i64 0], .bool false])))
theorem shR_len (l : CHs) : ∀ n, (shR l n).length + (l.filter (fun x => decide ((n : Int) ≤ x.1))).length ≤ l.length
  | 0 => by simp [shR]; exact List.length_filter_le _ _
  | n + 1 => by
    have ih := shR_len l n
    rw [shR, List.length_append]
    have h : (l.filter (fun x => decide (x.1 = (n : Int)))).length + (l.filter (fun x => decide (((n + 1 : Nat) : Int) ≤ x.1))).length ≤ (l.filter (fun x => decide ((n : Int) ≤ x.1))).length := by
      clear ih
      induction l with
      | nil => simp
      | cons x t ih =>
        rcases Int.lt_trichotomy x.1 (n : Int) with e | e | e
        · rw [List.filter_cons_of_neg (by simp; omega), List.filter_cons_of_neg (by simp; omega), List.filter_cons_of_neg (by simp; omega)]; exact ih
        · rw [List.filter_cons_of_pos (by simp; omega), List.filter_cons_of_neg (by simp; omega), List.filter_cons_of_pos (by simp; omega)]; simp only [List.length_cons]; omega
        · rw [List.filter_cons_of_neg (by simp; omega), List.filter_cons_of_pos (by simp; omega), List.filter_cons_of_pos (by simp; omega)]; simp only [List.length_cons]; omega
    omega
theorem sh_len (l : CHs) (i c : Nat) : (shR l c ++ (l.take i).filter (fun x => decide (x.1 = (c : Int)))).length ≤ 2 * l.length := by
  have h1 := shR_len l c
  have h2 : ((l.take i).filter (fun x => decide (x.1 = (c : Int)))).length ≤ (l.take i).length := List.length_filter_le _ _
  rw [List.length_take] at h2
  rw [List.length_append]
  omega
theorem flt_take (l : CHs) (c : Int) {i : Nat} (h : i < l.length) : (l.take (i + 1)).filter (fun x => decide (x.1 = c)) = (l.take i).filter (fun x => decide (x.1 = c)) ++ (if (l.getD i ch0).1 = c then [l.getD i ch0] else []) := by
  rw [ch_take l h, List.filter_append]
  congr 1
  by_cases e : (l.getD i ch0).1 = c
  · rw [if_pos e, List.filter_cons_of_pos (by simp only [decide_eq_true_eq]; exact e)]; rfl
  · rw [if_neg e, List.filter_cons_of_neg (by simp only [decide_eq_true_eq]; exact e)]; rfl
set_option maxRecDepth 100000 in
set_option maxHeartbeats 4000000 in
theorem r8Shine_any (v : VO) (r : RY) (hv : v.Ok) (hr : r.Ok) (m : Nat) (hM : IsM v r m) (ga : Option Addr) (gn gc : Nat) (g : Nat → Int) (lo hi : Int) (w : World) (hgn : gn ≤ maxLen) (hG : Ints w.heap.size w ga gn g) (hgr : grB v gn g = true) :
    Calls Tryz.prog 10 #[v.val, .slice ga gn gc, r.val, .agg #[.int .i64 lo, .int .i64 hi]] w (RSh (prN v r g (m + 1)) (v.nx * v.ny * v.nz).toNat lo hi w) := by
  have HUN := Lib.hid (fun (W : World) (hb : Below w.heap.size w W) => r6Under_any v r hv hr m hM ga gn gc g W hgn ((hG.below hb).up hb.size) hgr)
  have HCE := Lib.hid (fun (W : World) => r6Cells_any v hv W)
  have HOK := Lib.hid (prN_ok hv hr (g := g) (gr_mod hv hgr) (m + 1))
  have HPL := Lib.hid (prN_many hv hr (g := g) hM)
  have hpl := HPL.out
  have hnn : 0 < v.nx * v.ny * v.nz := Int.mul_pos (Int.mul_pos (by have := hv.x; omega) (by have := hv.y; omega)) (by have := hv.z; omega)
  have hnc := hv.cells
  obtain ⟨N, hN⟩ : ∃ N : Nat, v.nx * v.ny * v.nz = (N : Int) := ⟨(v.nx * v.ny * v.nz).toNat, by omega⟩
  rw [hN] at HCE HOK hnc ⊢
  rw [Int.toNat_natCast]
  generalize prN v r g (m + 1) = P at *
  have HNO := Lib.hid (fun (W' : World) (hb : Below w.heap.size w W') (y : CH) (hy : y ∈ chsR P) (hbig : 1000000 < y.2) => show RSh P N lo hi w (.returned (.tuple #[.agg #[.slice none 0 0, .slice none 0 0, .int .i64 0, .int .i64 0], .bool false])) W' from ⟨hb, .inr ⟨⟨y, hy, hbig⟩, rfl⟩⟩)
  have HYES := Lib.hid (fun (W' : World) (hb : Below w.heap.size w W') (hall : ∀ y ∈ chsR P, y.2 ≤ 1000000) (ca : Option Addr) (cc : Nat) (wa : Option Addr) (wc k : Nat) (hk : (shR (chsR P) N).length = k) (h1 : W'.ownsRow w.heap.size 3 1 (.slice ca k cc) k (clC (shR (chsR P) N))) (h2 : W'.ownsRow w.heap.size 3 1 (.slice wa k wc) k (wtC (shR (chsR P) N))) => show RSh P N lo hi w (.returned (.tuple #[.agg #[.slice ca k cc, .slice wa k wc, .int .i64 lo, .int .i64 hi], .bool true])) W' from by
    subst hk
    exact ⟨hb, .inl ⟨hall, ca, cc, wa, wc, rfl, h1, h2⟩⟩)
  generalize RSh P N lo hi w = RES at *
  have HSN := Lib.hid (fun (i c : Nat) => sh_len (chsR P) i c)
  have HLN := Lib.hid (show (chsR P).length = P.length from by simp [chsR])
  have HYI := Lib.hid (fun (i : Nat) (hi : i < P.length) => show (chsR P).getD i ch0 = ((P.getD i pt0).cell, (P.getD i pt0).hi - (P.getD i pt0).lo) ∧ (chsR P).getD i ch0 ∈ chsR P ∧ PtOk (N : Int) (P.getD i pt0) from by
    have h1 : P.getD i pt0 = P[i] := by rw [List.getD_eq_getElem?_getD, List.getElem?_eq_getElem hi]; rfl
    have h2 : (chsR P).getD i ch0 = ((P.getD i pt0).cell, (P.getD i pt0).hi - (P.getD i pt0).lo) := by rw [h1, List.getD_eq_getElem?_getD]; simp [chsR, hi]
    exact ⟨h2, by rw [h2, h1]; exact List.mem_map.2 ⟨P[i], List.getElem_mem _, rfl⟩, by rw [h1]; exact HOK.out _ (List.getElem_mem _)⟩)
  have HKEY := Lib.hid (fun (y : CH) (hy : y ∈ chsR P) => show 0 ≤ y.1 ∧ y.1 < (N : Int) from by
    unfold chsR at hy
    obtain ⟨p, hp, rfl⟩ := List.mem_map.1 hy
    exact (HOK.out p hp).1)
  unfold VO.val at HUN HCE
  unfold RY.val at HUN
  unfold VO.val RY.val
  clear hG hgr hM hv hr HOK
  go_enter Tryz.func10, Tryz.ntmps10; go_upto_region 1 with (fail); (obtain ⟨hVb, hVz, e1, e2, e3, e4⟩ := rk_four w (.cells #[.int .i64 v.nx, .int .i64 v.ny, .int .i64 v.nz, .int .i64 v.size] 23) (.cells #[.int .i64 r.x, .int .i64 r.y, .int .i64 r.z, .int .i64 r.dx, .int .i64 r.dy, .int .i64 r.dz] 26) (.cells #[.int .i64 lo, .int .i64 hi] 28) (.cells #[.slice none 0 0, .slice none 0 0, .int .i64 0, .int .i64 0] 31)); have HB := Lib.hid hVb; have HV := Lib.hid e1; have HRY := Lib.hid e2; have HSB := Lib.hid e3; have HRS := Lib.hid e4; have HVZ := Lib.hid hVz; clear hVb hVz e1 e2 e3 e4; generalize World.alloc (World.alloc (World.alloc (World.alloc w _) _) _) _ = V at *; (try clear v0 v1 v2 v3 s0 s1 s2 s3 s4 s5 p0 p1); obtain ⟨v0, v1, v2, v3⟩ := cr4 HV.out; obtain ⟨s0, s1, s2, s3, s4, s5⟩ := cr6 HRY.out; obtain ⟨p0, p1⟩ := cr2 HSB.out
  go_upto_region 2 with (fail)
  have hbx := rk_below V (.cells #[.slice none 0 0, .slice none 0 0, .int .i64 lo, .int .i64 hi] 31)
  have HBX := Lib.hid (heap_alloc_new V (.cells #[.slice none 0 0, .slice none 0 0, .int .i64 lo, .int .i64 hi] 31))
  have HRL := Lib.hid (show w.heap.size + 1 + 1 + 1 < V.heap.size from (bl HRS.out))
  (replace HB := Lib.hid (HB.out.trans ((hbx).mono HB.out.size)); replace HV := Lib.hid (bs HV.out hbx); replace HRY := Lib.hid (bs HRY.out hbx); replace HSB := Lib.hid (bs HSB.out hbx); replace HRS := Lib.hid (bs HRS.out hbx); (try clear v0 v1 v2 v3 s0 s1 s2 s3 s4 s5 p0 p1); obtain ⟨v0, v1, v2, v3⟩ := cr4 HV.out; obtain ⟨s0, s1, s2, s3, s4, s5⟩ := cr6 HRY.out; obtain ⟨p0, p1⟩ := cr2 HSB.out)
  clear hbx
  obtain ⟨x, hx⟩ : ∃ x, V.heap.size = x := ⟨_, rfl⟩
  rw [hx] at HBX HRL
  (try rw [hx])
  clear hx HVZ
  generalize World.alloc V _ = V2 at *
  have hxl := (bl HBX.out)
  go_upto_region 3 with (go_at_call 38; refine (HUN.out _ HB.out).mono ?_; rintro e w2 ⟨pa, pc, rfl, hown, hb2⟩; have HOW := Lib.hid hown; have HBX2 := Lib.hid ((hb2.block _ hxl).trans HBX.out); have HXL := Lib.hid (Nat.lt_of_lt_of_le hxl hb2.size); (replace HB := Lib.hid (HB.out.trans ((hb2).mono HB.out.size)); replace HV := Lib.hid (bs HV.out hb2); replace HRY := Lib.hid (bs HRY.out hb2); replace HSB := Lib.hid (bs HSB.out hb2); replace HRS := Lib.hid (bs HRS.out hb2); (try clear v0 v1 v2 v3 s0 s1 s2 s3 s4 s5 p0 p1); obtain ⟨v0, v1, v2, v3⟩ := cr4 HV.out; obtain ⟨s0, s1, s2, s3, s4, s5⟩ := cr6 HRY.out; obtain ⟨p0, p1⟩ := cr2 HSB.out); clear hb2 hown)
  rename World => w2
  have HPB := Lib.hid (fun b (hb : (Value.slice pa P.length pc).ownBlock = some b) => show x < b from Nat.lt_of_lt_of_le hxl (HOW.out.lt b hb).1)
  have HPW := Lib.hid (pcrow_of HOW.out)
  have HU0 := Lib.hid (ShU.start (lo := lo) (hi := hi) HXL.out HBX2.out)
  clear HOW HBX HBX2 hxl HUN v0 v1 v2 v3 s0 s1 s2 s3 s4 s5 p0 p1
  obtain ⟨N0, hN0⟩ : ∃ N0, w2.heap.size = N0 := ⟨_, rfl⟩
  have HN0 := Lib.hid hN0
  rw [hN0] at HU0 HXL
  clear hN0
  obtain ⟨n, hn⟩ : ∃ n, P.length = n := ⟨_, rfl⟩
  have HPN := Lib.hid hn
  rw [hn] at HLN HYI HPB hpl
  (try rw [hn])
  clear hn HPL
  generalize hl : chsR P = l at *
  clear hl
  go_wp2
  go_loopw [12] (fun s12 wr => ∃ c : Nat, c ≤ N ∧ s12 = .int .i64 (c : Int) ∧ Hid ((∀ y ∈ l, y.1 < (c : Int) → y.2 ≤ 1000000) ∧ ShU x N0 lo hi (shR l c) w2 wr)) (fun s12 _ => N - (intOf s12).toNat)
  case atStart => exact ⟨0, Nat.zero_le _, rfl, Lib.hid ⟨fun y hy h => by have := HKEY.out y hy; omega, HU0.out⟩⟩
  case round =>
    clear HU0
    obtain ⟨c, hcN, rfl, HH⟩ := hrel
    have hVr : wr.heap[w.heap.size]? = _ := (HH.out.2.keep w.heap.size (by have := HXL.out; have := HRL.out; omega) (by have := HRL.out; omega)).trans HV.out
    obtain ⟨v0, v1, v2, v3⟩ := cr4 hVr
    clear hVr
    by_cases hlt : c < N
    · have hlt' : (c : Int) < (N : Int) := by omega
      go_upto_region 6 with (go_at_call 15; refine (HCE.out _).mono ?_; rintro e w3 ⟨rfl, hb3⟩; have HH3 := Lib.hid (And.intro HH.out.1 (HH.out.2.step hb3)); clear hb3)
      clear HH v0 v1 v2 v3
      go_wp2
      go_loopw [13] (fun s13 wr => ∃ i : Nat, i ≤ n ∧ s13 = .int .i64 (i : Int) ∧ Hid ((∀ j, j < i → (l.getD j ch0).1 = (c : Int) → (l.getD j ch0).2 ≤ 1000000) ∧ ShU x N0 lo hi (shR l c ++ (l.take i).filter (fun x => decide (x.1 = (c : Int)))) w2 wr)) (fun s13 _ => n - (intOf s13).toNat)
      case atStart => exact ⟨0, Nat.zero_le _, rfl, Lib.hid ⟨fun j hj => by omega, by simpa using HH3.out.2⟩⟩
      case round =>
        obtain ⟨i, hin, rfl, HI⟩ := hrel
        by_cases hil : i < n
        · have hil' : (i : Int) < (n : Int) := by omega
          rcases HPW.out with h | ⟨pb, rfl, hpz, hpc⟩
          · have := HPN.out; omega
          obtain ⟨p0, p1, p2⟩ := hpc i (by have := HPN.out; omega)
          have hpx : x < pb := HPB.out pb rfl
          have hpn : pb < N0 := by have := HN0.out; omega
          have HKP := Lib.hid (fun (S : CHs) (W : World) (h : ShU x N0 lo hi S w2 W) => And.intro ((World.cell?_of_block (a := ⟨pb, i * 3, none⟩) (h.keep pb hpn (by omega))).trans p0) (And.intro ((World.cell?_of_block (a := ⟨pb, i * 3 + 1, none⟩) (h.keep pb hpn (by omega))).trans p1) ((World.cell?_of_block (a := ⟨pb, i * 3 + 2, none⟩) (h.keep pb hpn (by omega))).trans p2)))
          obtain ⟨hy1, hy2, ⟨hy3, hy5⟩, hy6, hy7, hy8⟩ := HYI.out i hil
          have HFT := Lib.hid (flt_take l (c : Int) (i := i) (by have := HLN.out; omega))
          obtain ⟨d0, d1, d2⟩ := HKP.out _ _ HI.out.2
          have HLV := Lib.hid (show (l.getD i ch0).1 = (c : Int) → (l.getD i ch0).2 ≤ 1000000 → ∀ j, j < i + 1 → (l.getD j ch0).1 = (c : Int) → (l.getD j ch0).2 ≤ 1000000 from fun h1 h2 j hj h3 => by
            by_cases e : j = i
            · subst e; exact h2
            · exact HI.out.1 j (by omega) h3)
          have HLW := Lib.hid (show ¬ (l.getD i ch0).1 = (c : Int) → ∀ j, j < i + 1 → (l.getD j ch0).1 = (c : Int) → (l.getD j ch0).2 ≤ 1000000 from fun h1 j hj h3 => by
            by_cases e : j = i
            · subst e; exact absurd h3 h1
            · exact HI.out.1 j (by omega) h3)
          clear p0 p1 p2 hpc
          rw [hy1] at HFT HLV HLW hy2
          generalize P.getD i pt0 = p at *
          obtain ⟨yc, yl, yh⟩ := p
          dsimp only at hy2 hy3 hy5 hy6 hy7 hy8 d0 d1 d2 HFT HLV HLW hy1
          have HMEM := Lib.hid hy2
          have HSI := Lib.hid HI.out.2
          clear hy1 hy2 HI
          by_cases hyc : yc = (c : Int)
          · subst hyc
            rw [if_pos rfl] at HFT
            have HA2 := Lib.hid (HLV.out rfl)
            clear HLV HLW
            go_upto_region 10 with (fail)
            generalize hSL : shR l c ++ (l.take i).filter (fun x => decide (x.1 = (c : Int))) = SL at *
            have HSL := Lib.hid hSL
            clear hSL
            go_cut [] from 42 to 64 (fun wx => Hid (ShU x N0 lo hi (SL ++ [((c : Int), yh - yl)]) w2 wx))
            case first =>
              obtain ⟨ca0, cp0, wa0, wp0, hbox, hco, hwo, hdis⟩ := HSI.out.row
              have HSZ := Lib.hid HSI.out.size
              have HEQ := Lib.hid HSI.out.eqs
              have HKE := Lib.hid HSI.out.keep
              obtain ⟨k, hk⟩ : ∃ k, List.length SL = k := ⟨_, rfl⟩
              have HK := Lib.hid hk
              rw [hk] at hbox hco hwo hdis
              clear hk
              have hcl : ∀ b, (Value.slice ca0 k cp0).ownBlock = some b → N0 ≤ b := fun b hb => (hco.lt b hb).1
              have hwl : ∀ b, (Value.slice wa0 k wp0).ownBlock = some b → N0 ≤ b := fun b hb => (hwo.lt b hb).1
              have hxn := HXL.out
              have HBP := Lib.hid (BP.start (W := wr.drew) (own_below hco (show Below wr.heap.size wr wr.drew from (Below.refl _ _).drew)) (own_below hwo (show Below wr.heap.size wr wr.drew from (Below.refl _ _).drew)) hdis HSZ.out)
              have HSS := Lib.hid (fun (W : World) (vc vw : Value) (kc kw : Nat) (cs ws : List Value) (h : BP N0 wr.drew W (.slice ca0 k cp0) (.slice wa0 k wp0) vc vw kc kw cs ws) => show W.heap[x]? = some (.cells #[.slice ca0 k cp0, .slice wa0 k wp0, .int .i64 lo, .int .i64 hi] 31) ∧ (W.cell? ⟨pb, i * 3 + 1, none⟩ = some (.int .i64 yl) ∧ W.cell? ⟨pb, i * 3 + 2, none⟩ = some (.int .i64 yh)) from
                ⟨(h.keep x (show x < wr.heap.size by have := HSZ.out; omega) (fun e => by have := hcl _ e; omega) (fun e => by have := hwl _ e; omega)).trans hbox,
                 (World.cell?_of_block (a := ⟨pb, i * 3 + 1, none⟩) (h.keep pb (show pb < wr.heap.size by have := HSZ.out; omega) (fun e => by have := hcl _ e; omega) (fun e => by have := hwl _ e; omega))).trans d1, (World.cell?_of_block (a := ⟨pb, i * 3 + 2, none⟩) (h.keep pb (show pb < wr.heap.size by have := HSZ.out; omega) (fun e => by have := hcl _ e; omega) (fun e => by have := hwl _ e; omega))).trans d2⟩)
              have HNEXT := Lib.hid (fun (W : World) (g1 p1 g2 p2 : Nat) (h : BP N0 wr.drew W (.slice ca0 k cp0) (.slice wa0 k wp0) (.slice (some ⟨g1, 0, none⟩) (k + 1) p1) (.slice (some ⟨g2, 0, none⟩) (k + 1) p2) (k + 1) (k + 1) (clC SL ++ [.int .i64 (c : Int)]) (wtC SL ++ [.int .i64 (yh - yl)])) =>
                show ShU x N0 lo hi (SL ++ [((c : Int), yh - yl)]) w2 ((W.setCell ⟨x, 0, none⟩ (.slice (some ⟨g1, 0, none⟩) (k + 1) p1)).setCell ⟨x, 1, none⟩ (.slice (some ⟨g2, 0, none⟩) (k + 1) p2)) from by
                  have h2 := ShU.next (x := x) (N := N0) (lo := lo) (hi := hi) (S := SL) (Wb := w2) (W0 := wr.drew) (y := ((c : Int), yh - yl)) HEQ.out hxn HKE.out (fun b e => by rcases e with e | e; exact hcl b e; exact hwl b e) hbox (by rw [HK.out]; exact h)
                  rwa [HK.out] at h2)
              have hkb : k ≤ 86400000004 := by have h1 := HSN.out i c; rw [HSL.out, HK.out] at h1; have := HLN.out; omega
              clear hbox hco hwo hdis hcl hwl HSZ HEQ HKE HSI HKP
              obtain ⟨i1, hi1, hz10, hz11, hz12⟩ := info_parts (show (Tryz.prog.info? 3).map (fun i => (i.zero, i.size, i.bytes)) = some (some (.int .i64 0), 1, 8) by kernel_rfl)
              have hb63 : k + 1 ≤ maxLen := by unfold maxLen; omega
              have hb47 : (k + 1) * 8 ≤ 140737488355328 := by omega
              have hws : IntKind.i64.wrap (yh - yl) = yh - yl := IntWalk.i64_in _ (by omega)
              refine wp_region_any (by kernel_rfl) ?_
              change wpAny _ _ _ _ _ _ _ (World.drew wr)
              clear d0 d1 d2 hnn hN hnc hcN
              generalize World.drew wr = wd at *
              refine any_of_tail 21 21 (fun w' => w'.heap[x]? = some (.cells #[.slice ca0 k cp0, .slice wa0 k wp0, .int .i64 lo, .int .i64 hi] 31) ∧ (w'.cell? ⟨pb, i * 3 + 1, none⟩ = some (.int .i64 yl) ∧ w'.cell? ⟨pb, i * 3 + 2, none⟩ = some (.int .i64 yh))) (by kernel_rfl) (HSS.out _ _ _ _ _ _ _ HBP.out) (fun hS => ?_)
              refine headH_take (i := 0) (v := ?_) rfl (by kernel_rfl) (fun _ _ _ h => h) (Or.inl ⟨by rfl, ?_⟩) (by assumption) ?_; rotate_left; (· intro w' hSw; (try dsimp only at hSw); obtain ⟨hA, hC⟩ := hSw; obtain ⟨a0, a1⟩ := cr2 hA; have b1 := hC.1; have b2 := hC.2; clear hA hC; (try simp only [hng]); go_simp; (try with_reducible rfl)); (try simp only [hng]); (try dsimp only [Act.put]); (try simp only [hns])
              refine headH_take (i := 1) (v := ?_) rfl (by kernel_rfl) (fun _ _ _ h => h) (Or.inl ⟨by rfl, ?_⟩) (by assumption) ?_; rotate_left; (· intro w' hSw; (try dsimp only at hSw); obtain ⟨hA, hC⟩ := hSw; obtain ⟨a0, a1⟩ := cr2 hA; have b1 := hC.1; have b2 := hC.2; clear hA hC; (try simp only [hng]); go_simp; (try with_reducible rfl)); (try simp only [hng]); (try dsimp only [Act.put]); (try simp only [hns])
              refine headH_take (i := 2) (v := ?_) rfl (by kernel_rfl) (fun _ _ _ h => h) (Or.inl ⟨by rfl, ?_⟩) (by assumption) ?_; rotate_left; (· intro w' hSw; (try dsimp only at hSw); obtain ⟨hA, hC⟩ := hSw; obtain ⟨a0, a1⟩ := cr2 hA; have b1 := hC.1; have b2 := hC.2; clear hA hC; (try simp only [hng]); go_simp; (try with_reducible rfl)); (try simp only [hng]); (try dsimp only [Act.put]); (try simp only [hns])
              refine headH_take (i := 5) (v := ?_) rfl (by kernel_rfl) (fun _ _ _ h => h) (Or.inl ⟨by rfl, ?_⟩) (by assumption) ?_; rotate_left; (· intro w' hSw; (try dsimp only at hSw); obtain ⟨hA, hC⟩ := hSw; obtain ⟨a0, a1⟩ := cr2 hA; have b1 := hC.1; have b2 := hC.2; clear hA hC; (try simp only [hng]); go_simp; (try with_reducible rfl)); (try simp only [hng]); (try dsimp only [Act.put]); (try simp only [hns])
              refine headH_take (i := 6) (v := ?_) rfl (by kernel_rfl) (fun _ _ _ h => h) (Or.inl ⟨by rfl, ?_⟩) (by assumption) ?_; rotate_left; (· intro w' hSw; (try dsimp only at hSw); obtain ⟨hA, hC⟩ := hSw; obtain ⟨a0, a1⟩ := cr2 hA; have b1 := hC.1; have b2 := hC.2; clear hA hC; (try simp only [hng]); go_simp; (try with_reducible rfl)); (try simp only [hng]); (try dsimp only [Act.put]); (try simp only [hns])
              refine headH_take (i := 7) (v := ?_) rfl (by kernel_rfl) (fun _ _ _ h => h) (Or.inl ⟨by rfl, ?_⟩) (by assumption) ?_; rotate_left; (· intro w' hSw; (try dsimp only at hSw); obtain ⟨hA, hC⟩ := hSw; obtain ⟨a0, a1⟩ := cr2 hA; have b1 := hC.1; have b2 := hC.2; clear hA hC; (try simp only [hng]); go_simp; (try with_reducible rfl)); (try simp only [hng]); (try dsimp only [Act.put]); (try simp only [hns])
              refine headH_take (i := 8) (v := ?_) rfl (by kernel_rfl) (fun _ _ _ h => h) (Or.inl ⟨by rfl, ?_⟩) (by assumption) ?_; rotate_left; (· intro w' hSw; (try dsimp only at hSw); obtain ⟨hA, hC⟩ := hSw; obtain ⟨a0, a1⟩ := cr2 hA; have b1 := hC.1; have b2 := hC.2; clear hA hC; (try simp only [hng]); go_simp; (try with_reducible rfl)); (try simp only [hng]); (try dsimp only [Act.put]); (try simp only [hns])
              refine headH_take (i := 9) (v := ?_) rfl (by kernel_rfl) (fun _ _ _ h => h) (Or.inl ⟨by rfl, ?_⟩) (by assumption) ?_; rotate_left; (· intro w' hSw; (try dsimp only at hSw); obtain ⟨hA, hC⟩ := hSw; obtain ⟨a0, a1⟩ := cr2 hA; have b1 := hC.1; have b2 := hC.2; clear hA hC; (try simp only [hng]); go_simp; (try with_reducible rfl)); (try simp only [hng]); (try dsimp only [Act.put]); (try simp only [hns])
              refine headH_take (i := 10) (v := ?_) rfl (by kernel_rfl) (fun _ _ _ h => h) (Or.inl ⟨by rfl, ?_⟩) (by assumption) ?_; rotate_left; (· intro w' hSw; (try dsimp only at hSw); obtain ⟨hA, hC⟩ := hSw; obtain ⟨a0, a1⟩ := cr2 hA; have b1 := hC.1; have b2 := hC.2; clear hA hC; (try simp only [hng]); go_simp; (try with_reducible rfl)); (try simp only [hng]); (try dsimp only [Act.put]); (try simp only [hns])
              refine headH_take (i := 11) (v := ?_) rfl (by kernel_rfl) (fun _ _ _ h => h) (Or.inl ⟨by rfl, ?_⟩) (by assumption) ?_; rotate_left; (· intro w' hSw; (try dsimp only at hSw); obtain ⟨hA, hC⟩ := hSw; obtain ⟨a0, a1⟩ := cr2 hA; have b1 := hC.1; have b2 := hC.2; clear hA hC; (try simp only [hng]); go_simp; (try with_reducible rfl)); (try simp only [hng]); (try dsimp only [Act.put]); (try simp only [hns])
              refine headH_take (i := 12) (v := ?_) rfl (by kernel_rfl) (fun _ _ _ h => h) (Or.inl ⟨by rfl, ?_⟩) (by assumption) ?_; rotate_left; (· intro w' hSw; (try dsimp only at hSw); obtain ⟨hA, hC⟩ := hSw; obtain ⟨a0, a1⟩ := cr2 hA; have b1 := hC.1; have b2 := hC.2; clear hA hC; (try simp only [hng]); go_simp; (try with_reducible rfl)); (try simp only [hng]); (try dsimp only [Act.put]); (try simp only [hns])
              refine headH_take (i := 13) (v := ?_) rfl (by kernel_rfl) (fun _ _ _ h => h) (Or.inl ⟨by rfl, ?_⟩) (by assumption) ?_; rotate_left; (· intro w' hSw; (try dsimp only at hSw); obtain ⟨hA, hC⟩ := hSw; obtain ⟨a0, a1⟩ := cr2 hA; have b1 := hC.1; have b2 := hC.2; clear hA hC; (try simp only [hng]); go_simp; (try with_reducible rfl)); (try simp only [hng]); (try dsimp only [Act.put]); (try simp only [hns])
              refine headH_take (i := 14) (v := ?_) rfl (by kernel_rfl) (fun _ _ _ h => h) (Or.inl ⟨by rfl, ?_⟩) (by assumption) ?_; rotate_left; (· intro w' hSw; (try dsimp only at hSw); obtain ⟨hA, hC⟩ := hSw; obtain ⟨a0, a1⟩ := cr2 hA; have b1 := hC.1; have b2 := hC.2; clear hA hC; (try simp only [hng]); go_simp; (try with_reducible rfl)); (try simp only [hng]); (try dsimp only [Act.put]); (try simp only [hns])
              refine headH_take (i := 15) (v := ?_) rfl (by kernel_rfl) (fun _ _ _ h => h) (Or.inl ⟨by rfl, ?_⟩) (by assumption) ?_; rotate_left; (· intro w' hSw; (try dsimp only at hSw); obtain ⟨hA, hC⟩ := hSw; obtain ⟨a0, a1⟩ := cr2 hA; have b1 := hC.1; have b2 := hC.2; clear hA hC; (try simp only [hng]); go_simp; (try with_reducible rfl)); (try simp only [hng]); (try dsimp only [Act.put]); (try simp only [hns])
              refine headH_take (i := 16) (v := ?_) rfl (by kernel_rfl) (fun _ _ _ h => h) (Or.inl ⟨by rfl, ?_⟩) (by assumption) ?_; rotate_left; (· intro w' hSw; (try dsimp only at hSw); obtain ⟨hA, hC⟩ := hSw; obtain ⟨a0, a1⟩ := cr2 hA; have b1 := hC.1; have b2 := hC.2; clear hA hC; (try simp only [hng]); go_simp; (try with_reducible rfl)); (try simp only [hng]); (try dsimp only [Act.put]); (try simp only [hns])
              refine headH_take (i := 17) (v := ?_) rfl (by kernel_rfl) (fun _ _ _ h => h) (Or.inl ⟨by rfl, ?_⟩) (by assumption) ?_; rotate_left; (· intro w' hSw; (try dsimp only at hSw); obtain ⟨hA, hC⟩ := hSw; obtain ⟨a0, a1⟩ := cr2 hA; have b1 := hC.1; have b2 := hC.2; clear hA hC; (try simp only [hng]); go_simp; (try with_reducible rfl)); (try simp only [hng]); (try dsimp only [Act.put]); (try simp only [hns])
              clear hws
              refine headH_all (rs := [3, 18]) (by kernel_rfl) (by simp) (by kernel_rfl) ?_; intro i0 hi0; simp only [List.mem_cons, List.not_mem_nil, or_false] at hi0
              rcases hi0 with rfl | rfl
              · (refine headH_op rfl (fun K hK => ?_); (try simp only [hng]); go_simp; have HP1 := Lib.hid (PB.new HBP.out (c : Int)); replace HBP := Lib.hid (HBP.out.alloc (.cells #[.int .i64 (c : Int)] 3)); (have HSx := Lib.hid (HSS.out _ _ _ _ _ _ _ HBP.out); refine hK.out _ _ HSx.out (fun hS => ?_); clear hK K HSx; (try simp only [hng]); (try dsimp only [Act.put]); (try simp only [hns])); generalize World.alloc wd _ = W1 at *)
                refine headH_all (rs := [4, 18]) (by kernel_rfl) (by simp) (by kernel_rfl) ?_; intro i0 hi0; simp only [List.mem_cons, List.not_mem_nil, or_false] at hi0
                rcases hi0 with rfl | rfl
                · (refine headH_op rfl (fun K hK => ?_); refine step_append_lies _ rfl _ _ 24 rfl N0 3 i1 (.int .i64 0) 1 8 Tryz.underlying24 hi1 hz10 hz11 hz12 rfl (by decide) _ k _ rfl HBP.out.cown _ 1 1 [.int .i64 (c : Int)] rfl rfl (World.news_of_block HP1.out.1) sh_int (by decide) hb63 hb47 (by have h1 := HBP.out.size; have h2 := HBP.out.le; omega) _ rfl ?_; intro g1 p1 W2 hown hgrow hat _; (try replace HP2 := Lib.hid (HP2.out.appC (kc' := k + 1) (p := p1) hgrow hat)); replace HBP := Lib.hid (HBP.out.appC hgrow hown hat); clear hown hgrow hat; (have HSx := Lib.hid (HSS.out _ _ _ _ _ _ _ HBP.out); refine hK.out _ _ HSx.out (fun hS => ?_); clear hK K HSx; (try simp only [hng]); (try dsimp only [Act.put]); (try simp only [hns])))
                  refine headH_take (i := 20) (v := ?_) rfl (by kernel_rfl) (fun _ _ _ h => h) (Or.inl ⟨by rfl, ?_⟩) (by assumption) ?_; rotate_left; (· intro w' hSw; (try dsimp only at hSw); obtain ⟨hA, hC⟩ := hSw; obtain ⟨a0, a1⟩ := cr2 hA; have b1 := hC.1; have b2 := hC.2; clear hA hC; (try simp only [hng]); go_simp; (try with_reducible rfl)); (try simp only [hng]); (try dsimp only [Act.put]); (try simp only [hns])
                  refine headH_all (rs := [18]) (by kernel_rfl) (by simp) (by kernel_rfl) ?_; intro i0 hi0; simp only [List.mem_cons, List.not_mem_nil, or_false] at hi0
                  subst hi0
                  (refine headH_op rfl (fun K hK => ?_); (try simp only [hng]); go_simp; have HP2 := Lib.hid (PB.new HBP.out (yh - yl)); (try replace HP1 := Lib.hid (HP1.out.alloc (.cells #[.int .i64 (yh - yl)] 3))); replace HBP := Lib.hid (HBP.out.alloc (.cells #[.int .i64 (yh - yl)] 3)); (have HSx := Lib.hid (HSS.out _ _ _ _ _ _ _ HBP.out); refine hK.out _ _ HSx.out (fun hS => ?_); clear hK K HSx; (try simp only [hng]); (try dsimp only [Act.put]); (try simp only [hns])); generalize World.alloc W2 _ = W3 at *)
                  refine headH_all (rs := [19]) (by kernel_rfl) (by simp) (by kernel_rfl) ?_; intro i0 hi0; simp only [List.mem_cons, List.not_mem_nil, or_false] at hi0
                  subst hi0
                  (refine headH_op rfl (fun K hK => ?_); refine step_append_lies _ rfl _ _ 24 rfl N0 3 i1 (.int .i64 0) 1 8 Tryz.underlying24 hi1 hz10 hz11 hz12 rfl (by decide) _ k _ rfl HBP.out.wown _ 1 1 [.int .i64 (yh - yl)] rfl rfl (World.news_of_block HP2.out.1) sh_int (by decide) hb63 hb47 (by have h1 := HBP.out.size; have h2 := HBP.out.le; omega) _ rfl ?_; intro g2 p2 W4 hown hgrow hat _; replace HBP := Lib.hid (HBP.out.appW hgrow hown hat); clear hown hgrow hat; (have HSx := Lib.hid (HSS.out _ _ _ _ _ _ _ HBP.out); refine hK.out _ _ HSx.out (fun hS => ?_); clear hK K HSx; (try simp only [hng]); (try dsimp only [Act.put]); (try simp only [hns])))
                  (change tailL _ _ _ _ _ _ _ _; refine ⟨by kernel_rfl, ?_⟩; simp only [List.drop_succ_cons, List.drop_zero]; have hbx := (HSS.out _ _ _ _ _ _ _ HBP.out).1; obtain ⟨a0, a1⟩ := cr2 hbx; have f0 := frozen_of_row _ _ 0 _ _ hbx; have f1 := frozen_of_row _ _ 1 _ _ hbx; have HNX := Lib.hid (HNEXT.out _ _ _ _ _ HBP.out); clear hbx hS HBP; go_wp2_with fail; go_meet; exact HNX)
                · (refine headH_op rfl (fun K hK => ?_); (try simp only [hng]); go_simp; have HP2 := Lib.hid (PB.new HBP.out (yh - yl)); (try replace HP1 := Lib.hid (HP1.out.alloc (.cells #[.int .i64 (yh - yl)] 3))); replace HBP := Lib.hid (HBP.out.alloc (.cells #[.int .i64 (yh - yl)] 3)); (have HSx := Lib.hid (HSS.out _ _ _ _ _ _ _ HBP.out); refine hK.out _ _ HSx.out (fun hS => ?_); clear hK K HSx; (try simp only [hng]); (try dsimp only [Act.put]); (try simp only [hns])); generalize World.alloc W1 _ = W2 at *)
                  refine headH_all (rs := [4]) (by kernel_rfl) (by simp) (by kernel_rfl) ?_; intro i0 hi0; simp only [List.mem_cons, List.not_mem_nil, or_false] at hi0
                  subst hi0
                  (refine headH_op rfl (fun K hK => ?_); refine step_append_lies _ rfl _ _ 24 rfl N0 3 i1 (.int .i64 0) 1 8 Tryz.underlying24 hi1 hz10 hz11 hz12 rfl (by decide) _ k _ rfl HBP.out.cown _ 1 1 [.int .i64 (c : Int)] rfl rfl (World.news_of_block HP1.out.1) sh_int (by decide) hb63 hb47 (by have h1 := HBP.out.size; have h2 := HBP.out.le; omega) _ rfl ?_; intro g1 p1 W3 hown hgrow hat _; (try replace HP2 := Lib.hid (HP2.out.appC (kc' := k + 1) (p := p1) hgrow hat)); replace HBP := Lib.hid (HBP.out.appC hgrow hown hat); clear hown hgrow hat; (have HSx := Lib.hid (HSS.out _ _ _ _ _ _ _ HBP.out); refine hK.out _ _ HSx.out (fun hS => ?_); clear hK K HSx; (try simp only [hng]); (try dsimp only [Act.put]); (try simp only [hns])))
                  refine headH_take (i := 20) (v := ?_) rfl (by kernel_rfl) (fun _ _ _ h => h) (Or.inl ⟨by rfl, ?_⟩) (by assumption) ?_; rotate_left; (· intro w' hSw; (try dsimp only at hSw); obtain ⟨hA, hC⟩ := hSw; obtain ⟨a0, a1⟩ := cr2 hA; have b1 := hC.1; have b2 := hC.2; clear hA hC; (try simp only [hng]); go_simp; (try with_reducible rfl)); (try simp only [hng]); (try dsimp only [Act.put]); (try simp only [hns])
                  refine headH_all (rs := [19]) (by kernel_rfl) (by simp) (by kernel_rfl) ?_; intro i0 hi0; simp only [List.mem_cons, List.not_mem_nil, or_false] at hi0
                  subst hi0
                  (refine headH_op rfl (fun K hK => ?_); refine step_append_lies _ rfl _ _ 24 rfl N0 3 i1 (.int .i64 0) 1 8 Tryz.underlying24 hi1 hz10 hz11 hz12 rfl (by decide) _ k _ rfl HBP.out.wown _ 1 1 [.int .i64 (yh - yl)] rfl rfl (World.news_of_block HP2.out.1) sh_int (by decide) hb63 hb47 (by have h1 := HBP.out.size; have h2 := HBP.out.le; omega) _ rfl ?_; intro g2 p2 W4 hown hgrow hat _; replace HBP := Lib.hid (HBP.out.appW hgrow hown hat); clear hown hgrow hat; (have HSx := Lib.hid (HSS.out _ _ _ _ _ _ _ HBP.out); refine hK.out _ _ HSx.out (fun hS => ?_); clear hK K HSx; (try simp only [hng]); (try dsimp only [Act.put]); (try simp only [hns])))
                  (change tailL _ _ _ _ _ _ _ _; refine ⟨by kernel_rfl, ?_⟩; simp only [List.drop_succ_cons, List.drop_zero]; have hbx := (HSS.out _ _ _ _ _ _ _ HBP.out).1; obtain ⟨a0, a1⟩ := cr2 hbx; have f0 := frozen_of_row _ _ 0 _ _ hbx; have f1 := frozen_of_row _ _ 1 _ _ hbx; have HNX := Lib.hid (HNEXT.out _ _ _ _ _ HBP.out); clear hbx hS HBP; go_wp2_with fail; go_meet; exact HNX)
              · (refine headH_op rfl (fun K hK => ?_); (try simp only [hng]); go_simp; have HP2 := Lib.hid (PB.new HBP.out (yh - yl)); (try replace HP1 := Lib.hid (HP1.out.alloc (.cells #[.int .i64 (yh - yl)] 3))); replace HBP := Lib.hid (HBP.out.alloc (.cells #[.int .i64 (yh - yl)] 3)); (have HSx := Lib.hid (HSS.out _ _ _ _ _ _ _ HBP.out); refine hK.out _ _ HSx.out (fun hS => ?_); clear hK K HSx; (try simp only [hng]); (try dsimp only [Act.put]); (try simp only [hns])); generalize World.alloc wd _ = W1 at *)
                refine headH_all (rs := [3]) (by kernel_rfl) (by simp) (by kernel_rfl) ?_; intro i0 hi0; simp only [List.mem_cons, List.not_mem_nil, or_false] at hi0
                subst hi0
                (refine headH_op rfl (fun K hK => ?_); (try simp only [hng]); go_simp; have HP1 := Lib.hid (PB.new HBP.out (c : Int)); replace HP2 := Lib.hid (HP2.out.alloc (.cells #[.int .i64 (c : Int)] 3)); replace HBP := Lib.hid (HBP.out.alloc (.cells #[.int .i64 (c : Int)] 3)); (have HSx := Lib.hid (HSS.out _ _ _ _ _ _ _ HBP.out); refine hK.out _ _ HSx.out (fun hS => ?_); clear hK K HSx; (try simp only [hng]); (try dsimp only [Act.put]); (try simp only [hns])); generalize World.alloc W1 _ = W2 at *)
                refine headH_all (rs := [4]) (by kernel_rfl) (by simp) (by kernel_rfl) ?_; intro i0 hi0; simp only [List.mem_cons, List.not_mem_nil, or_false] at hi0
                subst hi0
                (refine headH_op rfl (fun K hK => ?_); refine step_append_lies _ rfl _ _ 24 rfl N0 3 i1 (.int .i64 0) 1 8 Tryz.underlying24 hi1 hz10 hz11 hz12 rfl (by decide) _ k _ rfl HBP.out.cown _ 1 1 [.int .i64 (c : Int)] rfl rfl (World.news_of_block HP1.out.1) sh_int (by decide) hb63 hb47 (by have h1 := HBP.out.size; have h2 := HBP.out.le; omega) _ rfl ?_; intro g1 p1 W3 hown hgrow hat _; (try replace HP2 := Lib.hid (HP2.out.appC (kc' := k + 1) (p := p1) hgrow hat)); replace HBP := Lib.hid (HBP.out.appC hgrow hown hat); clear hown hgrow hat; (have HSx := Lib.hid (HSS.out _ _ _ _ _ _ _ HBP.out); refine hK.out _ _ HSx.out (fun hS => ?_); clear hK K HSx; (try simp only [hng]); (try dsimp only [Act.put]); (try simp only [hns])))
                refine headH_take (i := 20) (v := ?_) rfl (by kernel_rfl) (fun _ _ _ h => h) (Or.inl ⟨by rfl, ?_⟩) (by assumption) ?_; rotate_left; (· intro w' hSw; (try dsimp only at hSw); obtain ⟨hA, hC⟩ := hSw; obtain ⟨a0, a1⟩ := cr2 hA; have b1 := hC.1; have b2 := hC.2; clear hA hC; (try simp only [hng]); go_simp; (try with_reducible rfl)); (try simp only [hng]); (try dsimp only [Act.put]); (try simp only [hns])
                refine headH_all (rs := [19]) (by kernel_rfl) (by simp) (by kernel_rfl) ?_; intro i0 hi0; simp only [List.mem_cons, List.not_mem_nil, or_false] at hi0
                subst hi0
                (refine headH_op rfl (fun K hK => ?_); refine step_append_lies _ rfl _ _ 24 rfl N0 3 i1 (.int .i64 0) 1 8 Tryz.underlying24 hi1 hz10 hz11 hz12 rfl (by decide) _ k _ rfl HBP.out.wown _ 1 1 [.int .i64 (yh - yl)] rfl rfl (World.news_of_block HP2.out.1) sh_int (by decide) hb63 hb47 (by have h1 := HBP.out.size; have h2 := HBP.out.le; omega) _ rfl ?_; intro g2 p2 W4 hown hgrow hat _; replace HBP := Lib.hid (HBP.out.appW hgrow hown hat); clear hown hgrow hat; (have HSx := Lib.hid (HSS.out _ _ _ _ _ _ _ HBP.out); refine hK.out _ _ HSx.out (fun hS => ?_); clear hK K HSx; (try simp only [hng]); (try dsimp only [Act.put]); (try simp only [hns])))
                (change tailL _ _ _ _ _ _ _ _; refine ⟨by kernel_rfl, ?_⟩; simp only [List.drop_succ_cons, List.drop_zero]; have hbx := (HSS.out _ _ _ _ _ _ _ HBP.out).1; obtain ⟨a0, a1⟩ := cr2 hbx; have f0 := frozen_of_row _ _ 0 _ _ hbx; have f1 := frozen_of_row _ _ 1 _ _ hbx; have HNX := Lib.hid (HNEXT.out _ _ _ _ _ HBP.out); clear hbx hS HBP; go_wp2_with fail; go_meet; exact HNX)
            case rest =>
              have HX := Lib.hid hcut.out
              clear hcut
              rename World => wx
              clear d0 d1 d2
              obtain ⟨e0, e1, e2⟩ := HKP.out _ _ HX.out
              have hpw : pb < wx.heap.size := by have := HX.out.size; omega
              go_upto_region 11 with (fail)
              (refine wp_region_calm (wx.heap.size) (by kernel_rfl) (by kernel_rfl) ?_; (repeat (first | go_big_quiet_step (fail) | quiet_step (fail))); refine wpQuiet_nil ?_; intro _ hw'; obtain ⟨xq, hw''⟩ := hw'; subst hw'')
              have HX3 := Lib.hid (HX.out.step (Calm.below xq))
              clear e0 e1 e2 hpw HX HKP HSI
              generalize Calm.val xq = wy at *
              have hxn := HXL.out
              have hrl := HRL.out
              by_cases hbig : 1000000 < yh - yl
              · have hrb : wy.heap[w.heap.size + 1 + 1 + 1]? = _ := (HX3.out.keep _ (by omega) (by omega)).trans HRS.out
                have HFB := Lib.hid (HX3.out.bel HB.out (by omega))
                have HNN := Lib.hid (fun (W' : World) hb => HNO.out W' hb ((c : Int), yh - yl) HMEM.out hbig)
                clear hnn hN hnc hcN HX3
                (obtain ⟨q0, q1, q2, q3⟩ := cr4 hrb; have f0 := frozen_of_row _ _ 0 _ _ hrb; have f1 := frozen_of_row _ _ 1 _ _ hrb; have f2 := frozen_of_row _ _ 2 _ _ hrb; have f3 := frozen_of_row _ _ 3 _ _ hrb; have HRB := Lib.hid hrb; clear hrb)
                go_wp2
                obtain ⟨z1, z2, z3⟩ := set4 wy (w.heap.size + 1 + 1 + 1) _ _ _ _ _ (.slice none 0 0) (.slice none 0 0) (.int .i64 0) (.int .i64 0) HRB.out
                have z3 := z3 w HFB.out (by omega)
                clear q0 q1 q2 q3 f0 f1 f2 f3 z2
                generalize World.setCell (World.setCell (World.setCell (World.setCell wy _ _) _ _) _ _) _ _ = wf at *
                obtain ⟨r0, r1, r2, r3⟩ := cr4 z1
                refine bodyPost_ret (v := .tuple #[.agg #[.slice none 0 0, .slice none 0 0, .int .i64 0, .int .i64 0], .bool false]) (by simp [results, Tryz.results10, go_sem, r0, r1, r2, r3]) rfl ?_
                exact HNN.out wf z3
              · have hbig' : yh - yl ≤ 1000000 := by omega
                have HA3 := Lib.hid (HA2.out hbig')
                have HS2 := Lib.hid (show ShU x N0 lo hi (shR l c ++ (l.take (i + 1)).filter (fun x => decide (x.1 = (c : Int)))) w2 wy from by rw [HFT.out, ← List.append_assoc, HSL.out]; exact HX3.out)
                clear HX3 HFT
                go_wp2
                go_roundw
                case rel => exact ⟨i + 1, by omega, by go_num, Lib.hid ⟨HA3.out, HS2.out⟩⟩
                case measure => simp [intOf]; omega
          · have hyc' : (yc == (c : Int)) = false := beq_eq_false_iff_ne.2 hyc
            rw [if_neg hyc, List.append_nil] at HFT
            have HA2 := Lib.hid (HLW.out hyc)
            have HS2 := Lib.hid (show ShU x N0 lo hi (shR l c ++ (l.take (i + 1)).filter (fun x => decide (x.1 = (c : Int)))) w2 wr from by rw [HFT.out]; exact HSI.out)
            clear HLV HLW HFT
            go_wp2
            go_roundw
            case rel => exact ⟨i + 1, by omega, by go_num, Lib.hid ⟨HA2.out, HS2.out⟩⟩
            case measure => simp [intOf]; omega
        · obtain rfl : i = n := by omega
          have hil' : ¬ (i : Int) < (i : Int) := by omega
          have HTK := Lib.hid (show l.take i = l from List.take_of_length_le (by have := HLN.out; omega))
          have HNX := Lib.hid (show ∀ y ∈ l, y.1 < (c : Int) + 1 → y.2 ≤ 1000000 from fun y hy h => by
            by_cases hk : y.1 < (c : Int)
            · exact HH3.out.1 y hy hk
            · obtain ⟨j, hj, rfl⟩ := List.mem_iff_getElem.1 hy
              have e : l.getD j ch0 = l[j] := by rw [List.getD_eq_getElem?_getD, List.getElem?_eq_getElem hj]; rfl
              have := HI.out.1 j (by have := HLN.out; omega) (by rw [e]; omega)
              rwa [e] at this)
          have HU2 := Lib.hid (show ShU x N0 lo hi (shR l (c + 1)) w2 wr from by
            have := HI.out.2
            rw [HTK.out] at this
            exact this)
          clear HTK HI HH3
          go_wp2
          go_roundw
          case rel => exact ⟨c + 1, by omega, by go_num, Lib.hid ⟨fun y hy h => HNX.out y hy (by omega), HU2.out⟩⟩
          case measure => simp [intOf]; omega
    · obtain rfl : c = N := by omega
      have hlt' : ¬ (c : Int) < (c : Int) := by omega
      go_upto_region 13 with (go_at_call 15; refine (HCE.out _).mono ?_; rintro e w3 ⟨rfl, hb3⟩; have HH3 := Lib.hid (And.intro HH.out.1 (HH.out.2.step hb3)); clear hb3)
      rename World => w3
      clear HH v0 v1 v2 v3
      have HALL := Lib.hid (show ∀ y ∈ l, y.2 ≤ 1000000 from fun y hy => HH3.out.1 y hy (HKEY.out y hy).2)
      obtain ⟨ca0, cp0, wa0, wp0, hbox, hco, hwo, hdis⟩ := HH3.out.2.row
      have hrl := HRL.out
      have hxn := HXL.out
      have hrb : w3.heap[w.heap.size + 1 + 1 + 1]? = _ := (HH3.out.2.keep _ (by omega) (by omega)).trans HRS.out
      have HFB := Lib.hid (HH3.out.2.bel HB.out (by omega))
      have HOC := Lib.hid (fun (W' : World) (h : ∀ b, b ≠ w.heap.size + 1 + 1 + 1 → W'.heap[b]? = w3.heap[b]?) => And.intro (own_base (own_keep hco (fun b hb => h b (by have := own_block_le hco hb; omega))) (show w.heap.size ≤ N0 by omega)) (own_base (own_keep hwo (fun b hb => h b (by have := own_block_le hwo hb; omega))) (show w.heap.size ≤ N0 by omega)))
      have HYE := Lib.hid (fun (W' : World) h1 ca cc wa wc k hk h2 h3 => HYES.out W' h1 HALL.out ca cc wa wc k hk h2 h3)
      generalize shR l c = SL at *
      obtain ⟨k, hk⟩ : ∃ k, List.length SL = k := ⟨_, rfl⟩
      have HK := Lib.hid hk
      rw [hk] at hbox HOC
      clear hk hco hwo hdis HH3 hnn hN
      (obtain ⟨q0, q1, q2, q3⟩ := cr4 hrb; have f0 := frozen_of_row _ _ 0 _ _ hrb; have f1 := frozen_of_row _ _ 1 _ _ hrb; have f2 := frozen_of_row _ _ 2 _ _ hrb; have f3 := frozen_of_row _ _ 3 _ _ hrb; have HRB := Lib.hid hrb; clear hrb)
      obtain ⟨a0, a1, a2, a3⟩ := cr4 hbox
      clear hbox
      go_wp2
      obtain ⟨z1, z2, z3⟩ := set4 w3 (w.heap.size + 1 + 1 + 1) _ _ _ _ _ (.slice ca0 k cp0) (.slice wa0 k wp0) (.int .i64 lo) (.int .i64 hi) HRB.out
      have z3 := z3 w HFB.out (by omega)
      have HO2 := Lib.hid (HOC.out _ z2)
      clear q0 q1 q2 q3 f0 f1 f2 f3 z2 a0 a1 a2 a3
      generalize World.setCell (World.setCell (World.setCell (World.setCell w3 _ _) _ _) _ _) _ _ = wf at *
      obtain ⟨r0, r1, r2, r3⟩ := cr4 z1
      refine bodyPost_ret (v := .tuple #[.agg #[.slice ca0 k cp0, .slice wa0 k wp0, .int .i64 lo, .int .i64 hi], .bool true]) (by simp [results, Tryz.results10, go_sem, r0, r1, r2, r3]) rfl ?_
      exact HYE.out wf z3 ca0 cp0 wa0 wp0 k HK.out HO2.out.1 HO2.out.2
end Go.Proofs.YtkdopjkdokgipaaGreatDoor
namespace Go.Proofs.YtkdopjkdokgipaaGreatDoor
open Go.RowKit
set_option linter.unusedVariables false
set_option linter.unusedSimpArgs false
theorem sum_boundG {n : Nat} {b : BM} (hs : ∀ k, k < b.cn → 0 ≤ b.cs k ∧ b.cs k < (n : Int)) (hw : ∀ k, k < b.cn → 0 ≤ b.ws k ∧ b.ws k ≤ 1000000) {f : Nat → Int} (hf : ∀ c, c < n → 0 ≤ f c ∧ f c ≤ 10000) : ∀ k, k ≤ b.cn → 0 ≤ sumN (fun k => b.ws k * f (b.cs k).toNat) k ∧ sumN (fun k => b.ws k * f (b.cs k).toNat) k ≤ 10000000000 * (k : Int)
  | 0, _ => by simp [sumN]
  | k + 1, hk => by
    have ih := sum_boundG hs hw hf k (by omega)
    have h1 := hw k (by omega)
    have h2 := hs k (by omega)
    have h3 := hf (b.cs k).toNat (by omega)
    have h4 : 0 ≤ b.ws k * f (b.cs k).toNat := Int.mul_nonneg (by omega) (by omega)
    have h5 : b.ws k * f (b.cs k).toNat ≤ 1000000 * 10000 := Int.mul_le_mul (by omega) (by omega) (by omega) (by omega)
    rw [sumN]
    omega
set_option maxRecDepth 100000 in
set_option maxHeartbeats 1000000 in
theorem r8OfG_any (p : BM) (n : Nat) (fa : Option Addr) (fc : Nat) (f : Nat → Int) (w : World) (B : Nat) (hBw : B ≤ w.heap.size) (hp : p.mem B w) (hF : Ints w.heap.size w fa n f) (hcn : p.cn ≤ 40) (hs : ∀ k, k < p.cn → 0 ≤ p.cs k ∧ p.cs k < (n : Int)) (hwn : p.wn = p.cn) (hw : ∀ k, k < p.cn → 0 ≤ p.ws k ∧ p.ws k ≤ 1000000) (hf : ∀ c, c < n → 0 ≤ f c ∧ f c ≤ 10000) :
    Calls Tryz.prog 14 #[p.val, .slice fa n fc] w fun e w' => e = .returned (.int .i64 (ofN p f)) ∧ Below w.heap.size w w' := by
  have HSB := Lib.hid (fun k hk => sum_boundG hs hw hf k hk)
  have HST := Lib.hid (fun k => show sumN (fun k => p.ws k * f (p.cs k).toNat) (k + 1) = sumN (fun k => p.ws k * f (p.cs k).toNat) k + p.ws k * f (p.cs k).toNat from rfl)
  have HW := Lib.hid hw
  have HFD := Lib.hid hf
  have HSA := Lib.hid (fun k (hk : k < p.cn) => hs k hk)
  unfold ofN
  have H0 := Lib.hid (show sumN (fun k => p.ws k * f (p.cs k).toNat) 0 = 0 from rfl)
  generalize sumN (fun k => p.ws k * f (p.cs k).toNat) = SM at *
  obtain ⟨qca, qcn, qcc, qwa, qwn, qwc, qlo, qhi, qcs, qws⟩ := p
  obtain ⟨qm1, qm2, qm3, qm4⟩ := hp
  dsimp only at qm1 qm2 qm3 qm4 hwn HSB HST HW HSA hcn
  dsimp only [BM.val]
  subst hwn
  have HQ3 := Lib.hid qm3
  have HQ4 := Lib.hid qm4
  have HF := Lib.hid hF
  clear qm3 qm4 qm1 qm2 hs hw hf hF
  go_enter Tryz.func14, Tryz.ntmps14
  go_upto_region 1 with (fail)
  have HX := Lib.hid (show BX w.heap.size qca qwn qcc qwa qwn qwc qlo qhi (w.alloc (.cells #[.slice qca qwn qcc, .slice qwa qwn qwc, .int .i64 qlo, .int .i64 qhi] 31)) from BX_new)
  have HB := Lib.hid (show Below w.heap.size w (w.alloc (.cells #[.slice qca qwn qcc, .slice qwa qwn qwc, .int .i64 qlo, .int .i64 qhi] 31)) from (Below.refl _ _).alloc (Nat.le_refl _) _)
  generalize World.alloc w _ = V at *
  have hzV := HB.out.size
  go_wp2
  go_loopw [5, 6] (fun s t wr => ∃ i : Nat, i ≤ qwn ∧ t = .int .i64 (i : Int) ∧ s = .int .i64 (SM i) ∧ Hid (Below w.heap.size w wr ∧ BX w.heap.size qca qwn qcc qwa qwn qwc qlo qhi wr)) (fun _ t _ => qwn - (intOf t).toNat)
  case atStart => exact ⟨0, Nat.zero_le _, rfl, by rw [H0.out], Lib.hid ⟨HB.out, HX.out⟩⟩
  case round =>
    clear HB HX
    obtain ⟨i, hi, rfl, rfl, HR⟩ := hrel
    obtain ⟨x0, x1, x2, x3, x4⟩ := HR.out.2
    have hzr := HR.out.1.size
    by_cases hlt : i < qwn
    · have hlt' : (i : Int) < (qwn : Int) := by omega
      obtain ⟨wb, woff, rfl, hwB, d0⟩ := (HQ4.out.below (HR.out.1.mono hBw)).get hlt
      obtain ⟨cb, coff, rfl, hcB, d1⟩ := (HQ3.out.below (HR.out.1.mono hBw)).get hlt
      obtain ⟨g1, g2⟩ := HSA.out i hlt
      have g3 : (qcs i).toNat < n := by omega
      obtain ⟨fb, foff, rfl, hfB, d2⟩ := (HF.out.below HR.out.1).get g3
      obtain ⟨r1, r2⟩ := HW.out i hlt
      obtain ⟨r3, r4⟩ := HFD.out _ g3
      obtain ⟨r5, r6⟩ := HSB.out i hi
      have HSI := Lib.hid (HST.out i)
      have l1 : wb < wr.heap.size := by omega
      have l2 : cb < wr.heap.size := by omega
      have l3 : fb < wr.heap.size := by omega
      generalize qws i = W at *
      generalize f (qcs i).toNat = F at *
      generalize qcs i = C at *
      have HP := Lib.hid (show 0 ≤ W * F ∧ W * F ≤ 1000000 * 10000 from ⟨Int.mul_nonneg (by omega) (by omega), Int.mul_le_mul (by omega) (by omega) (by omega) (by omega)⟩)
      obtain ⟨p1, p2⟩ := HP.out
      have r7 : SM i ≤ 400000000000 := by omega
      have r8 : SM i + W * F ≤ 500000000000 := by omega
      have r9 : 0 ≤ SM i + W * F := by omega
      generalize hS : SM i = S at *
      have HSS := Lib.hid hS
      clear hS r6
      go_upto_region 5 with (fail)
      (refine wp_region_calm (wr.heap.size) (by kernel_rfl) (by kernel_rfl) ?_; (repeat (first | go_big_quiet_step (fail) | quiet_step (fail))); refine wpQuiet_nil ?_; intro _ hw'; obtain ⟨xq, hw''⟩ := hw'; subst hw'')
      go_wp2
      go_roundw
      case rel => exact ⟨i + 1, by omega, by go_num, by rw [HSI.out], Lib.hid ⟨HR.out.1.trans ((Calm.below _).mono hzr), BX_step HR.out.2 (Calm.below _)⟩⟩
      case measure => simp [intOf]; omega
    · obtain rfl : i = qwn := by omega
      have hlt' : ¬ (i : Int) < (i : Int) := by omega
      go_wp2
      go_ret
      exact ⟨rfl, HR.out.1⟩
end Go.Proofs.YtkdopjkdokgipaaGreatDoor
