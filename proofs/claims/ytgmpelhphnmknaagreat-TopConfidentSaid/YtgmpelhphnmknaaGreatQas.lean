/- Texts put together: RfE, RfO, ToFlxH, SeqGen. -/
import Derived.Test.YtgmpelhphnmknaaGreatQar
import Derived.Test.YtgmpelhphnmknaaGreatQal
import Derived.Test.YtgmpelhphnmknaaGreatQam
import Derived.Test.YtgmpelhphnmknaaGreatQao
import Derived.Test.YtgmpelhphnmknaaGreatQae
import Derived.LoopIn
import Derived.Sort.CutIn
set_option maxRecDepth 100000
set_option maxHeartbeats 8000000
set_option linter.unusedVariables false
set_option linter.unusedSimpArgs false
namespace Go.Proofs.YtgmpelhphnmknaaGreat
open Go.RowKit Go.Shelf
structure ShU (x N : Nat) (lo hi : Int) (S : List CH) (Wb wr : World) : Prop where
 eqs : wr.os = Wb.os ∧ wr.tape = Wb.tape ∧ wr.output = Wb.output
 lt : x < N
 size : N ≤ wr.heap.size
 keep : ∀ b, b < N → b ≠ x → wr.heap[b]? = Wb.heap[b]?
 row : ∃ ca cc wa wc, wr.heap[x]? = some (.cells #[.slice ca S.length cc, .slice wa S.length wc, .int .i64 lo, .int .i64 hi] 62) ∧ wr.ownsRow N 3 1 (.slice ca S.length cc) S.length (clC S) ∧ wr.ownsRow N 3 1 (.slice wa S.length wc) S.length (wtC S) ∧ ∀ b, (Value.slice ca S.length cc).ownBlock = some b → (Value.slice wa S.length wc).ownBlock ≠ some b
theorem ShU.step {x N : Nat} {lo hi : Int} {S : List CH} {Wb wr W : World} (h : ShU x N lo hi S Wb wr) (hb : Below wr.heap.size wr W) : ShU x N lo hi S Wb W := by
 obtain ⟨h1, h2, h3, h4, ca, cc, wa, wc, h5, h6, h7, h8⟩ := h
 refine ⟨⟨hb.os.trans h1.1, hb.tape.trans h1.2.1, hb.output.trans h1.2.2⟩, h2, Nat.le_trans h3 hb.size, fun b k1 k2 => (hb.block b (by omega)).trans (h4 b k1 k2), ca, cc, wa, wc, (hb.block x (by omega)).trans h5, own_below h6 hb, own_below h7 hb, h8⟩
theorem ShU.next {x N : Nat} {lo hi : Int} {S : List CH} {Wb W0 W : World} {y : CH} {c0 w0 : Value} {g1 p1 g2 p2 : Nat} (he : W0.os = Wb.os ∧ W0.tape = Wb.tape ∧ W0.output = Wb.output) (hx : x < N) (hk : ∀ b, b < N → b ≠ x → W0.heap[b]? = Wb.heap[b]?) (hlow : ∀ b, c0.ownBlock = some b ∨ w0.ownBlock = some b → N ≤ b)
  (hbox : W0.heap[x]? = some (.cells #[c0, w0, .int .i64 lo, .int .i64 hi] 62))
  (h : BP N W0 W c0 w0 (.slice (some ⟨g1, 0, none⟩) (S.length + 1) p1) (.slice (some ⟨g2, 0, none⟩) (S.length + 1) p2) (S.length + 1) (S.length + 1) (clC S ++ [.int .i64 y.1]) (wtC S ++ [.int .i64 y.2])) :
  ShU x N lo hi (S ++ [y]) Wb ((W.setCell ⟨x, 0, none⟩ (.slice (some ⟨g1, 0, none⟩) (S.length + 1) p1)).setCell ⟨x, 1, none⟩ (.slice (some ⟨g2, 0, none⟩) (S.length + 1) p2)) := by
 have hxl := (blkL hbox)
 have hz := h.size
 have hle := h.le
 have k0 := (h.keep x hxl (fun e => by have := hlow x (.inl e); omega) (fun e => by have := hlow x (.inr e); omega)).trans hbox
 have k1 := heap_setCell_same W x 0 _ _ (.slice (some ⟨g1, 0, none⟩) (S.length + 1) p1) k0
 have k2 := heap_setCell_same _ x 1 _ _ (.slice (some ⟨g2, 0, none⟩) (S.length + 1) p2) k1
 have far : ∀ b, b ≠ x → ((W.setCell ⟨x, 0, none⟩ (.slice (some ⟨g1, 0, none⟩) (S.length + 1) p1)).setCell ⟨x, 1, none⟩ (.slice (some ⟨g2, 0, none⟩) (S.length + 1) p2)).heap[b]? = W.heap[b]? := fun b hb =>
  (heap_setCell_other _ ⟨x, 1, none⟩ b _ hb).trans (heap_setCell_other W ⟨x, 0, none⟩ b _ hb)
 have hlen : (S ++ [y]).length = S.length + 1 := by simp
 have hc : clC (S ++ [y]) = clC S ++ [.int .i64 y.1] := by simp [clC]
 have hw : wtC (S ++ [y]) = wtC S ++ [.int .i64 y.2] := by simp [wtC]
 refine ⟨⟨h.eqs.1.trans he.1, h.eqs.2.1.trans he.2.1, h.eqs.2.2.trans he.2.2⟩, hx, ?_, fun b hb hn => ?_, some ⟨g1, 0, none⟩, p1, some ⟨g2, 0, none⟩, p2, ?_, ?_, ?_, ?_⟩
 ·rw [World.size_setCell, World.size_setCell]; omega
 ·refine (far b hn).trans ((h.keep b (by omega) (fun e => ?_) (fun e => ?_)).trans (hk b hb hn))
  ·have := hlow b (.inl e); omega
  ·have := hlow b (.inr e); omega
 ·rw [hlen]; exact k2
 ·rw [hlen, hc]; exact own_keep h.cown (fun b hb => far b (by have := own_block_le h.cown hb; omega))
 ·rw [hlen, hw]; exact own_keep h.wown (fun b hb => far b (by have := own_block_le h.wown hb; omega))
 ·rw [hlen]; exact h.dis
theorem ShU.start {x : Nat} {lo hi : Int} {Wb : World} (hx : x < Wb.heap.size) (hbox : Wb.heap[x]? = some (.cells #[.slice none 0 0, .slice none 0 0, .int .i64 lo, .int .i64 hi] 62)) : ShU x Wb.heap.size lo hi [] Wb Wb :=
 ⟨⟨rfl, rfl, rfl⟩, hx, Nat.le_refl _, fun _ _ _ => rfl, none, 0, none, 0, hbox, World.ownsRow_nil _ _ _ _, World.ownsRow_nil _ _ _ _, fun b hb => by simp [Value.ownBlock] at hb⟩
theorem ShU.bel {x N : Nat} {lo hi : Int} {S : List CH} {w Wb wr : World} (h : ShU x N lo hi S Wb wr) (hb : Below w.heap.size w Wb) (hx : w.heap.size ≤ x) : Below w.heap.size w wr :=
 ⟨h.eqs.1.trans hb.os, h.eqs.2.1.trans hb.tape, h.eqs.2.2.trans hb.output, by have := h.size; have := h.lt; omega, fun b k => (h.keep b (by have := h.lt; omega) (by omega)).trans (hb.block b k)⟩
end Go.Proofs.YtgmpelhphnmknaaGreat
namespace Go.Proofs.YtgmpelhphnmknaaGreat
open Go Go.RowKit Go.Shelf
theorem r6Opacity_any (v : VO) (r : RY) (hv : v.Ok) (hr : r.Ok) (m : Nat) (hM : IsM v r m) (ga : Option Addr) (gn gc : Nat) (g : Nat → Int) (da : Option Addr) (dn dc : Nat) (d : Nat → Int) (w : World) (hgn : gn ≤ maxLen) (hG : Ints w.heap.size w ga gn g) (hgr : grB v gn g = true) (hD : Ints w.heap.size w da dn d) (hdn : (dn : Int) = v.nx * v.ny * v.nz) (hd : denB dn d = true) :
  Calls Tryz.prog 34 #[v.val, .slice ga gn gc, .slice da dn dc, r.val] w fun e w' => e = .returned (.int .i64 (opS d (prN v r g (m + 1)))) ∧ Below w.heap.size w w' := by
 have HUN := Hd (fun (W : World) (hb : Below w.heap.size w W) => r6Under_any v r hv hr m hM ga gn gc g W hgn ((hG.below hb).up hb.size) hgr)
 have hok := prN_ok hv hr (g := g) (gr_mod hv hgr) (m + 1)
 rw [← hdn] at hok
 have hls : lenS (prN v r g (m + 1)) ≤ 43200000000 := Int.le_trans (prN_lenS hv hr g m hM.1) (atF_low hv hr m).2
 have hdb := denB_iff.1 hd
 have hmany := prN_many hv hr (g := g) hM
 have hds : ∀ c : Nat, (c : Int) < (dn : Int) → 0 ≤ d c ∧ d c ≤ 10000 := fun c hc => hdb c (by omega)
 have HTK := Hd (fun i (hi : i < (prN v r g (m + 1)).length) => opS_take d (prN v r g (m + 1)) hi)
 have HBD := Hd (fun i => show 0 ≤ opS d ((prN v r g (m + 1)).take i) ∧ opS d ((prN v r g (m + 1)).take i) ≤ 432000000000000 from by
  have h1 := opS_bound hds ((prN v r g (m + 1)).take i) (fun p hp => hok p (List.mem_of_mem_take hp))
  have h2 := lenS_take (prN v r g (m + 1)) hok i
  omega)
 have HPT := Hd (fun i (hi : i < (prN v r g (m + 1)).length) => show PtOk (dn : Int) ((prN v r g (m + 1)).getD i pt0) from by
  rw [List.getD_eq_getElem?_getD, List.getElem?_eq_getElem hi]
  exact hok _ (List.getElem_mem hi))
 have HFU := Hd (show (prN v r g (m + 1)).take (prN v r g (m + 1)).length = prN v r g (m + 1) from List.take_length)
 have HDS := Lib.hid hds
 generalize prN v r g (m + 1) = P at *
 have HD := Lib.hid hD
 unfold VO.val RY.val at *
 clear hG hgr hM hv hr hok hls hdb hds hd hdn hD
 have HB := Hd (((Below.refl _ w).alloc (Nat.le_refl _) (.cells #[.int .i64 v.nx, .int .i64 v.ny, .int .i64 v.nz, .int .i64 v.size] 23)).alloc (by simp) (.cells #[.int .i64 r.x, .int .i64 r.y, .int .i64 r.z, .int .i64 r.dx, .int .i64 r.dy, .int .i64 r.dz] 33))
 have e1 := (Below.heap_alloc (w.alloc (.cells #[.int .i64 v.nx, .int .i64 v.ny, .int .i64 v.nz, .int .i64 v.size] 23)) (.cells #[.int .i64 r.x, .int .i64 r.y, .int .i64 r.z, .int .i64 r.dx, .int .i64 r.dy, .int .i64 r.dz] 33) w.heap.size (by simp)).trans (heap_alloc_new w _)
 have e2 := heap_alloc_new (w.alloc (.cells #[.int .i64 v.nx, .int .i64 v.ny, .int .i64 v.nz, .int .i64 v.size] 23)) (.cells #[.int .i64 r.x, .int .i64 r.y, .int .i64 r.z, .int .i64 r.dx, .int .i64 r.dy, .int .i64 r.dz] 33)
 rw [show (w.alloc (.cells #[.int .i64 v.nx, .int .i64 v.ny, .int .i64 v.nz, .int .i64 v.size] 23)).heap.size = w.heap.size + 1 from by simp] at e2
 go_enter Tryz.func34, Tryz.ntmps34
 go_upto_region 2 with (fail)
 generalize World.alloc (World.alloc w _) _ = V at *
 obtain ⟨v0, v1, v2, v3⟩ := cr4 e1
 obtain ⟨s0, s1, s2, s3, s4, s5⟩ := cr6 e2
 simp only [hnq] at v0 v1 v2 v3 s0 s1 s2 s3 s4 s5
 clear e1 e2
 go_upto_region 3 with (go_at_call 78; refine (HUN.out _ HB.out).mono ?_; rintro e W2 ⟨pa, pc, rfl, hown, hb2⟩; have HPR := Hd (pcrow_of hown); have HB2 := Hd (HB.out.trans (hb2.mono HB.out.size)); have HD2 := Hd (HD.out.below (HB.out.trans (hb2.mono HB.out.size))); clear hown hb2 v0 v1 v2 v3 s0 s1 s2 s3 s4 s5)
 have HPR2 := Hd (And.intro HPR.out HD2.out)
 clear HPR HD2 HUN HB
 go_wp2
 go_loopw [9, 11] (fun s9 s11 wr => ∃ i : Nat, i ≤ P.length ∧ s11 = .int .i64 (i : Int) ∧ s9 = .int .i64 (opS d (P.take i)) ∧ Hid (PRow wr pa P ∧ Ints w.heap.size wr da dn d) ∧ Hid (Below w.heap.size w wr)) (fun _ s11 _ => P.length - (intOf s11).toNat)
 case atStart => exact ⟨0, Nat.zero_le _, rfl, rfl, HPR2, HB2⟩
 case round =>
  clear HPR2 HB2
  obtain ⟨i, hi, rfl, rfl, HPR, HB⟩ := hrel
  by_cases hl : i < P.length
  ·have hl' : (i : Int) < (P.length : Int) := by omega
   obtain ⟨b, rfl, hbl, hc⟩ : ∃ b, pa = some ⟨b, 0, none⟩ ∧ b < wr.heap.size ∧ ∀ i, i < P.length → wr.cell? ⟨b, i * 3, none⟩ = some (.int .i64 (P.getD i pt0).cell) ∧ wr.cell? ⟨b, i * 3 + 1, none⟩ = some (.int .i64 (P.getD i pt0).lo) ∧ wr.cell? ⟨b, i * 3 + 2, none⟩ = some (.int .i64 (P.getD i pt0).hi) := by
    rcases HPR.out.1 with h | h
    ·omega
    ·exact h
   obtain ⟨c0, c1, c2⟩ := hc i hl
   obtain ⟨⟨p1, p2⟩, p3, p4, p5⟩ := HPT.out i hl
   have htk := HTK.out i hl
   have hb1 := HBD.out i
   have hb2 := HBD.out (i + 1)
   have hdd := HDS.out ((P.getD i pt0).cell.toNat) (by omega)
   obtain ⟨k, hk⟩ : ∃ k : Nat, (P.getD i pt0).cell = (k : Int) := ⟨(P.getD i pt0).cell.toNat, by omega⟩
   rw [hk] at c0 p1 p2 htk hdd
   rw [Int.toNat_natCast] at htk hdd
   have hkd : k < dn := by omega
   obtain ⟨eb, eo, rfl, heb, hec⟩ : ∃ eb eo, da = some ⟨eb, eo, none⟩ ∧ eb < w.heap.size ∧ ∀ i, i < dn → wr.cell? ⟨eb, eo + i, none⟩ = some (.int .i64 (d i)) := by
    rcases HPR.out.2 with h | h
    ·omega
    ·exact h
   have e0 := hec k hkd
   have heb2 : eb < wr.heap.size := by have := HB.out.size; omega
   have hkd' : (k : Int) < (dn : Int) := by omega
   have HT := Lib.hid htk
   have hprod : 0 ≤ ((P.getD i pt0).hi - (P.getD i pt0).lo) * d k := Int.mul_nonneg (by omega) (by omega)
   have hsum : opS d (P.take (i + 1)) = opS d (P.take i) + ((P.getD i pt0).hi - (P.getD i pt0).lo) * d k := htk
   generalize hm1 : ((P.getD i pt0).hi - (P.getD i pt0).lo) * d k = M at *
   generalize (P.getD i pt0).lo = lo at *
   generalize (P.getD i pt0).hi = hi_ at *
   generalize d k = dk at *
   generalize hs1 : opS d (P.take (i + 1)) = S1 at *
   generalize opS d (P.take i) = S0 at *
   have HS1 := Lib.hid hs1
   have HKE := Lib.hid hk
   clear hc hec htk hs1 HT hk
   go_upto_region 6 with (fail)
   (refine wp_region_calm_tail (wr.heap.size) 22 (by kernel_rfl) (by kernel_rfl) ?_; simp only [List.take_succ_cons, List.take_zero, List.drop_succ_cons, List.drop_zero]; (repeat (first | go_big_quiet_step (fail) | quiet_step (fail))); refine wpQuiet_nil (wqn ?_); intro xq)
   have hq := xq.below
   have HPR3 := Hd (And.intro (HPR.out.1.step hq) (HPR.out.2.below (hq.mono HB.out.size)))
   have HB3 := Hd (HB.out.trans (hq.mono HB.out.size))
   clear hq c0 c1 c2 e0 HPR HB
   generalize Calm.val xq = V2 at *
   go_wp2
   go_roundw
   case rel => first | exact ⟨i + 1, by omega, by go_num, by rw [HS1.out, hsum], HPR3, HB3⟩ | ((repeat apply Exists.intro); exact ⟨⟨i + 1, by omega, by go_num, by rw [HS1.out, hsum], HPR3, HB3⟩, rfl⟩)
   case measure => simp [intOf]; omega
  ·obtain rfl : i = P.length := by omega
   have hl' : ¬ (P.length : Int) < (P.length : Int) := by omega
   go_wp2
   go_ret
   exact ⟨rfl, HB.out⟩
end Go.Proofs.YtgmpelhphnmknaaGreat
namespace Go.Proofs.YtgmpelhphnmknaaGreat
open Go Go.RowKit Go.Shelf
attribute [local go_sem] Oper.semAt_some
structure WX where
 p0 : Int
 p1 : Int
 x0 : Int
 x1 : Int
def WX.cells (x : WX) : Array Value := #[.int .i64 x.p0, .int .i64 x.p1, .int .i64 x.x0, .int .i64 x.x1]
structure WX.ok (x : WX) : Prop where
 p : -1000 ≤ x.p0 ∧ x.p0 ≤ x.p1 ∧ x.p1 ≤ 1000
 x : -1000 ≤ x.x0 ∧ x.x0 ≤ x.x1 ∧ x.x1 ≤ 1000
def pk2 (i : Nat) (a b : Int) : Int := if i = 0 then a else b
def fac4 (s : SK) (x : WX) (i1 i2 i3 i4 : Nat) : Int := max 0 (1000 - pk2 i1 s.be0 s.be1 * pk2 i2 x.p0 x.p1 + pk2 i3 s.al0 s.al1 * pk2 i4 x.x0 x.x1)
def facF (s : SK) (x : WX) (k : Nat) : Int := fac4 s x (k / 8) (k / 4 % 2) (k / 2 % 2) (k % 2)
theorem facF_at (s : SK) (x : WX) {i1 i2 i3 i4 : Nat} (h1 : i1 < 2) (h2 : i2 < 2) (h3 : i3 < 2) (h4 : i4 < 2) : facF s x (8 * i1 + 4 * i2 + 2 * i3 + i4) = fac4 s x i1 i2 i3 i4 := by
 unfold facF
 rw [show (8 * i1 + 4 * i2 + 2 * i3 + i4) / 8 = i1 by omega, show (8 * i1 + 4 * i2 + 2 * i3 + i4) / 4 % 2 = i2 by omega, show (8 * i1 + 4 * i2 + 2 * i3 + i4) / 2 % 2 = i3 by omega, show (8 * i1 + 4 * i2 + 2 * i3 + i4) % 2 = i4 by omega]
theorem ix2 (a b : Int) {i : Nat} (hi : i < 2) : ∀ W : World, (Instr.index 173 (.agg #[.int .i64 a, .int .i64 b]) (.int .i64 (i : Int))).run Tryz.prog W = .ok (.int .i64 (pk2 i a b)) W := by
 match i, hi with
 | 0, _ => intro W; kernel_rfl
 | 1, _ => intro W; kernel_rfl
theorem pk2_bound {i : Nat} {a b lo hi : Int} (h : lo ≤ a ∧ a ≤ b ∧ b ≤ hi) : lo ≤ pk2 i a b ∧ pk2 i a b ≤ hi := by
 unfold pk2
 split <;> omega
theorem fmul_bound {x y K M : Int} (hK : 0 ≤ K) (hx : -K ≤ x ∧ x ≤ K) (hy : -M ≤ y ∧ y ≤ M) : -(K * M) ≤ x * y ∧ x * y ≤ K * M := by
 have hM : 0 ≤ M := by omega
 have e : (x * y).natAbs ≤ (K * M).natAbs := by
  rw [Int.natAbs_mul, Int.natAbs_mul]
  exact Nat.mul_le_mul (by omega) (by omega)
 have : 0 ≤ K * M := Int.mul_nonneg hK hM
 omega
theorem corners1_any (a b : Int) (w : World) : Calls Tryz.prog 169 #[.agg #[.int .i64 a, .int .i64 b]] w fun e w' => e = .returned (.agg #[.int .i64 a, .int .i64 b]) ∧ Below w.heap.size w w' := by
 have HB := Hd (((Below.refl _ w).alloc (Nat.le_refl _) (.cells #[.int .i64 a, .int .i64 b] 28)).alloc (by simp) (.cells #[.int .i64 a, .int .i64 b] 173))
 have hnew := heap_alloc_new (w.alloc (.cells #[.int .i64 a, .int .i64 b] 28)) (.cells #[.int .i64 a, .int .i64 b] 173)
 rw [show (w.alloc (.cells #[.int .i64 a, .int .i64 b] 28)).heap.size = w.heap.size + 1 from by simp] at hnew
 have HN := Lib.hid hnew
 clear hnew
 go_enter Tryz.func169, Tryz.ntmps169
 go_wp2
 generalize World.alloc (World.alloc w _) _ = V at *
 obtain ⟨q0, q1⟩ := cr2 HN.out
 exact bodyPost_ret (v := .agg #[.int .i64 a, .int .i64 b]) (by simp [results, Tryz.results169, go_sem, q0, q1]) rfl ⟨rfl, HB.out⟩
theorem fx_three (W : World) (o1 o2 o3 : Obj) : Below W.heap.size W (((W.alloc o1).alloc o2).alloc o3) ∧ (((W.alloc o1).alloc o2).alloc o3).heap[W.heap.size]? = some o1 ∧ (((W.alloc o1).alloc o2).alloc o3).heap[W.heap.size + 1]? = some o2 ∧ (((W.alloc o1).alloc o2).alloc o3).heap[W.heap.size + 1 + 1]? = some o3 := by
 refine ⟨(((Below.refl _ W).alloc (Nat.le_refl _) o1).alloc (by simp) o2).alloc (by simp; omega) o3, ?_, ?_, ?_⟩
 ·rw [Below.heap_alloc _ _ _ (by simp; omega), Below.heap_alloc _ _ _ (by simp)]
  exact heap_alloc_new W o1
 ·rw [Below.heap_alloc _ _ _ (by simp)]
  have := heap_alloc_new (W.alloc o1) o2
  rwa [show (W.alloc o1).heap.size = W.heap.size + 1 from by simp] at this
 ·have := heap_alloc_new ((W.alloc o1).alloc o2) o3
  rwa [show ((W.alloc o1).alloc o2).heap.size = W.heap.size + 1 + 1 from by simp] at this
def Rng16 (xs : List Nat) : Prop := xs = List.range 16
def AnyL (xs : List Nat) : Prop := True
def CnAt (s : SK) (x : WX) (q : Nat) (W : World) : Prop := W.heap[q]? = some (.cells #[.int .i64 s.P, .slice s.ba s.bn s.bc, .int .i64 s.be0, .int .i64 s.be1, .int .i64 s.al0, .int .i64 s.al1] 30) ∧ W.heap[q + 1]? = some (.cells #[.int .i64 x.p0, .int .i64 x.p1, .int .i64 x.x0, .int .i64 x.x1] 46) ∧ W.heap[q + 1 + 1]? = some (.cells #[.func (.func 169) #[] #[]] 266)
theorem CnAt.step {s : SK} {x : WX} {q : Nat} {W W' : World} (h : CnAt s x q W) (hk : ∀ b, b = q ∨ b = q + 1 ∨ b = q + 1 + 1 → W'.heap[b]? = W.heap[b]?) : CnAt s x q W' := ⟨(hk _ (.inl rfl)).trans h.1, (hk _ (.inr (.inl rfl))).trans h.2.1, (hk _ (.inr (.inr rfl))).trans h.2.2⟩
theorem CnAt.below {s : SK} {x : WX} {q : Nat} {W W' : World} (h : CnAt s x q W) (hb : Below W.heap.size W W') : CnAt s x q W' := h.step fun b hB => hb.block b (by
 have h1 := (blkL h.1)
 have h2 := (blkL h.2.1)
 have h3 := (blkL h.2.2)
 omega)
theorem corners_any (s : SK) (x : WX) (w : World) : Calls Tryz.prog 126 #[.agg s.cells, .agg x.cells] w fun e w' => e = .returned (.func (.func 170) #[] #[.pointer (some ⟨w.heap.size + 1 + 1, 0, none⟩), .pointer (some ⟨w.heap.size, 0, none⟩), .pointer (some ⟨w.heap.size + 1, 0, none⟩)]) ∧ CnAt s x w.heap.size w' ∧ Below w.heap.size w w' := by
 unfold SK.cells WX.cells
 obtain ⟨h1, h2, h3, h4⟩ := fx_three w (.cells #[.int .i64 s.P, .slice s.ba s.bn s.bc, .int .i64 s.be0, .int .i64 s.be1, .int .i64 s.al0, .int .i64 s.al1] 30) (.cells #[.int .i64 x.p0, .int .i64 x.p1, .int .i64 x.x0, .int .i64 x.x1] 46) (.cells #[.func (.func 169) #[] #[]] 266)
 go_enter Tryz.func126, Tryz.ntmps126
 go_wp2
 go_ret
 exact ⟨rfl, ⟨h2, h3, h4⟩, h1⟩
theorem corners_seq (s : SK) (x : WX) (hbe : -100 ≤ s.be0 ∧ s.be0 ≤ s.be1 ∧ s.be1 ≤ 100) (hal : -100 ≤ s.al0 ∧ s.al0 ≤ s.al1 ∧ s.al1 ≤ 100) (hx : x.ok) (q : Nat) (w : World) (hq : CnAt s x q w) :
  SeqOwn Tryz.prog 170 #[.pointer (some ⟨q + 1 + 1, 0, none⟩), .pointer (some ⟨q, 0, none⟩), .pointer (some ⟨q + 1, 0, none⟩)] (fun k => #[.int .i64 (facF s x k)]) (fun b => b = q ∨ b = q + 1 ∨ b = q + 1 + 1) (fun _ _ _ => True) (fun pre k => pre = List.range k ∧ k < 16) Rng16 AnyL w := by
 intro l J Jx W hW hJ hJx hY h0 N
 have HS0 : ∃ O, J (List.range 0) O W ∧ CnAt s x q W := ⟨_, h0, hq.below hW⟩
 have HSTEP : ∀ m A B, (∃ O, J (List.range m) O A ∧ CnAt s x q A) → Below A.heap.size A B → (∃ O, J (List.range m) O B ∧ CnAt s x q B) := by
  rintro m A B ⟨O, h1, h2⟩ hb
  exact ⟨_, hJ _ _ _ _ _ h1 (Turn.of_below hb), h2.below hb⟩
 have HCN : ∀ m A, (∃ O, J (List.range m) O A ∧ CnAt s x q A) → CnAt s x q A := by
  rintro m A ⟨O, h1, h2⟩
  exact h2
 have HY : ∀ m A, (∃ O, J (List.range m) O A ∧ CnAt s x q A) → m < 16 → ∀ N, YieldAt Fence.wide N Tryz.prog l #[.int .i64 (facF s x m)] A fun e W' => (e = .returned (.bool true) ∧ (∃ O, J (List.range (m + 1)) O W' ∧ CnAt s x q W')) ∨ (e = .returned (.bool false) ∧ ∃ pre O, AnyL pre ∧ Jx pre O W') := by
  rintro m A ⟨O, h1, h2⟩ hm N
  obtain ⟨fn, tmps, assign, body, hy, hR⟩ := hY _ m O A h1 trivial ⟨rfl, hm⟩ N
  refine ⟨fn, tmps, assign, body, hy, hR.mono ?_⟩
  rintro e W' (⟨h3, h4, h5⟩ | ⟨h3, h4⟩)
  ·exact .inl ⟨h3, _, by rw [List.range_succ]; exact h4, h2.step (fun b hb => h5.block b (.inr hb))⟩
  ·exact .inr ⟨h3, _, _, trivial, h4⟩
 have HFIN : ∀ A, (∃ O, J (List.range 16) O A ∧ CnAt s x q A) → ∃ xs O, Rng16 xs ∧ J xs O A := by
  rintro A ⟨O, h1, h2⟩
  exact ⟨_, O, rfl, h1⟩
 clear hJ hJx hY h0 hq
 generalize hST : (fun (m : Nat) (A : World) => ∃ O, J (List.range m) O A ∧ CnAt s x q A) = ST at *
 have eST : ∀ m A, (∃ O, J (List.range m) O A ∧ CnAt s x q A) = ST m A := fun m A => by rw [← hST]
 simp only [eST] at HS0 HSTEP HCN HY HFIN
 clear eST hST
 have HC1 := Hd (fun (a b : Int) (W : World) => corners1_any a b W)
 have HSTEP := Lib.hid HSTEP
 have HCN := Lib.hid HCN
 have HY := Lib.hid HY
 have HFIN := Lib.hid HFIN
 have HAT := Hd (fun i1 i2 i3 i4 (h1 : i1 < 2) (h2 : i2 < 2) (h3 : i3 < 2) (h4 : i4 < 2) => facF_at s x h1 h2 h3 h4)
 have hB := Lib.hid hbe
 have hA := Lib.hid hal
 have hX := Lib.hid hx
 generalize facF s x = fF at *
 unfold fac4 at HAT
 clear hbe hal hx
 refine callsIn_of_wp Tryz.func170 rfl trivial ?_ rfl
 simp only [Tryz.ntmps170, List.size_toArray, List.length_cons, List.length_nil, Nat.reduceAdd, Nat.reduceSub, Array.replicate_succ, Array.replicate_zero, List.push_toArray, List.append_toArray, List.nil_append, List.cons_append]
 have HQ := Hd (HCN.out _ _ HS0)
 (obtain ⟨k0, k1, k2, k3, k4, k5⟩ := cr6 HQ.out.1; obtain ⟨m0, m1, m2, m3⟩ := cr4 HQ.out.2.1; have n0 := cell_of_row _ _ 0 _ _ _ HQ.out.2.2; simp only [hnq] at k0 k1 k2 k3 k4 k5 m0 m1 m2 m3 n0; clear HQ)
 gi_wp2_with (refine ⟨trivial, fun h => (by cases h), ?_⟩; with_reducible refine (callsIn_wide.2 (HC1.out _ _ _)).mono ?_; rintro e W1 ⟨rfl, hb⟩; have HS1 := Hd (HSTEP.out _ _ _ HS0 hb); clear hb HS0)
 clear k0 k1 k2 k3 k4 k5 m0 m1 m2 m3 n0
 gi_loopw [17] (fun s17 wr => ∃ i1 : Nat, i1 ≤ 2 ∧ s17 = .int .i64 (i1 : Int) ∧ Hid (ST (8 * i1) wr)) (fun s17 _ => 2 - (intOf s17).toNat)
 case atStart => exact ⟨0, by omega, rfl, HS1⟩
 case round =>
  clear HS1
  obtain ⟨i1, hi1, rfl, H1⟩ := hrel
  by_cases hl1 : i1 < 2
  ·have hl1' : (i1 : Int) < 2 := by omega
   have hix1 := ix2 s.be0 s.be1 hl1
   have HQ := Hd (HCN.out _ _ H1.out)
   (obtain ⟨k0, k1, k2, k3, k4, k5⟩ := cr6 HQ.out.1; obtain ⟨m0, m1, m2, m3⟩ := cr4 HQ.out.2.1; have n0 := cell_of_row _ _ 0 _ _ _ HQ.out.2.2; simp only [hnq] at k0 k1 k2 k3 k4 k5 m0 m1 m2 m3 n0; clear HQ)
   gi_wp2_with (refine ⟨trivial, fun h => (by cases h), ?_⟩; with_reducible refine (callsIn_wide.2 (HC1.out _ _ _)).mono ?_; rintro e W2 ⟨rfl, hb⟩; have HS2 := Hd (HSTEP.out _ _ _ H1.out hb); clear hb)
   clear H1 hix1
   clear k0 k1 k2 k3 k4 k5 m0 m1 m2 m3 n0
   gi_loopw [24] (fun s24 wa => ∃ i2 : Nat, i2 ≤ 2 ∧ s24 = .int .i64 (i2 : Int) ∧ Hid (ST (8 * i1 + 4 * i2) wa)) (fun s24 _ => 2 - (intOf s24).toNat)
   case atStart => exact ⟨0, by omega, rfl, HS2⟩
   case round =>
    clear HS2
    obtain ⟨i2, hi2, rfl, H2⟩ := hrel
    by_cases hl2 : i2 < 2
    ·have hl2' : (i2 : Int) < 2 := by omega
     have hix2 := ix2 x.p0 x.p1 hl2
     have HQ := Hd (HCN.out _ _ H2.out)
     (obtain ⟨k0, k1, k2, k3, k4, k5⟩ := cr6 HQ.out.1; obtain ⟨m0, m1, m2, m3⟩ := cr4 HQ.out.2.1; have n0 := cell_of_row _ _ 0 _ _ _ HQ.out.2.2; simp only [hnq] at k0 k1 k2 k3 k4 k5 m0 m1 m2 m3 n0; clear HQ)
     gi_wp2_with (refine ⟨trivial, fun h => (by cases h), ?_⟩; with_reducible refine (callsIn_wide.2 (HC1.out _ _ _)).mono ?_; rintro e W3 ⟨rfl, hb⟩; have HS3 := Hd (HSTEP.out _ _ _ H2.out hb); clear hb)
     clear H2 hix2
     clear k0 k1 k2 k3 k4 k5 m0 m1 m2 m3 n0
     gi_loopw [31] (fun s31 wb => ∃ i3 : Nat, i3 ≤ 2 ∧ s31 = .int .i64 (i3 : Int) ∧ Hid (ST (8 * i1 + 4 * i2 + 2 * i3) wb)) (fun s31 _ => 2 - (intOf s31).toNat)
     case atStart => exact ⟨0, by omega, rfl, HS3⟩
     case round =>
      clear HS3
      obtain ⟨i3, hi3, rfl, H3⟩ := hrel
      by_cases hl3 : i3 < 2
      ·have hl3' : (i3 : Int) < 2 := by omega
       have hix3 := ix2 s.al0 s.al1 hl3
       have HQ := Hd (HCN.out _ _ H3.out)
       (obtain ⟨k0, k1, k2, k3, k4, k5⟩ := cr6 HQ.out.1; obtain ⟨m0, m1, m2, m3⟩ := cr4 HQ.out.2.1; have n0 := cell_of_row _ _ 0 _ _ _ HQ.out.2.2; simp only [hnq] at k0 k1 k2 k3 k4 k5 m0 m1 m2 m3 n0; clear HQ)
       gi_wp2_with (refine ⟨trivial, fun h => (by cases h), ?_⟩; with_reducible refine (callsIn_wide.2 (HC1.out _ _ _)).mono ?_; rintro e W4 ⟨rfl, hb⟩; have HS4 := Hd (HSTEP.out _ _ _ H3.out hb); clear hb)
       clear H3 hix3
       clear k0 k1 k2 k3 k4 k5 m0 m1 m2 m3 n0
       gi_loopw [38] (fun s38 wd => ∃ i4 : Nat, i4 ≤ 2 ∧ s38 = .int .i64 (i4 : Int) ∧ Hid (ST (8 * i1 + 4 * i2 + 2 * i3 + i4) wd)) (fun s38 _ => 2 - (intOf s38).toNat)
       case atStart => exact ⟨0, by omega, rfl, HS4⟩
       case round =>
        clear HS4
        obtain ⟨i4, hi4, rfl, H4⟩ := hrel
        by_cases hl4 : i4 < 2
        ·have hl4' : (i4 : Int) < 2 := by omega
         have hix4 := ix2 x.x0 x.x1 hl4
         have hat := HAT.out i1 i2 i3 i4 hl1 hl2 hl3 hl4
         have b1 := pk2_bound (i := i1) hB.out
         have b2 := pk2_bound (i := i2) hX.out.p
         have b3 := pk2_bound (i := i3) hA.out
         have b4 := pk2_bound (i := i4) hX.out.x
         obtain ⟨fn, tmps, assign, body, hy, hR⟩ := HY.out _ _ H4.out (show 8 * i1 + 4 * i2 + 2 * i3 + i4 < 16 by omega) (N - 1)
         rw [hat] at hy
         clear hat
         generalize pk2 i1 s.be0 s.be1 = v1 at *
         generalize pk2 i2 x.p0 x.p1 = v2 at *
         generalize pk2 i3 s.al0 s.al1 = v3 at *
         generalize pk2 i4 x.x0 x.x1 = v4 at *
         have c1 := fmul_bound (K := 100) (M := 1000) (by decide) b1 b2
         have c2 := fmul_bound (K := 100) (M := 1000) (by decide) b3 b4
         generalize hm1 : v1 * v2 = m1 at *
         generalize hm2 : v3 * v4 = m2 at *
         by_cases hz : 1000 - m1 + m2 ≤ 0
         ·rw [show max 0 (1000 - m1 + m2) = 0 from by omega] at hy
          gi_wp2
          (refine ⟨fun h => (by cases h), hR.mono ?_⟩; rintro e W6 (⟨rfl, hs6⟩ | ⟨rfl, pre, O, _, hj6⟩); (focus (have HS5 := Hd (show ST (8 * i1 + 4 * i2 + 2 * i3 + (i4 + 1)) W6 from hs6); clear hR hy hs6; gi_wp2; go_roundw; (case rel => first | exact ⟨i4 + 1, by omega, by go_num, HS5⟩ | ((repeat apply Exists.intro); exact ⟨⟨i4 + 1, by omega, by go_num, HS5⟩, rfl⟩)); (case measure => simp [intOf]; omega))); (gi_wp2; refine bodyPost_ret (results_none rfl _ _ _) rfl ?_; exact ⟨⟨_, rfl⟩, .inr ⟨_, O, trivial, hj6⟩⟩))
         ·rw [show max 0 (1000 - m1 + m2) = 1000 - m1 + m2 from by omega] at hy
          gi_wp2
          (refine ⟨fun h => (by cases h), hR.mono ?_⟩; rintro e W6 (⟨rfl, hs6⟩ | ⟨rfl, pre, O, _, hj6⟩); (focus (have HS5 := Hd (show ST (8 * i1 + 4 * i2 + 2 * i3 + (i4 + 1)) W6 from hs6); clear hR hy hs6; gi_wp2; go_roundw; (case rel => first | exact ⟨i4 + 1, by omega, by go_num, HS5⟩ | ((repeat apply Exists.intro); exact ⟨⟨i4 + 1, by omega, by go_num, HS5⟩, rfl⟩)); (case measure => simp [intOf]; omega))); (gi_wp2; refine bodyPost_ret (results_none rfl _ _ _) rfl ?_; exact ⟨⟨_, rfl⟩, .inr ⟨_, O, trivial, hj6⟩⟩))
        ·obtain rfl : i4 = 2 := by omega
         have hl4' : ¬ ((2 : Nat) : Int) < 2 := by omega
         gi_wp2
         go_roundw
         case rel => first | exact ⟨i3 + 1, by omega, by go_num, Hd (by have := H4.out; rwa [show 8 * i1 + 4 * i2 + 2 * i3 + 2 = 8 * i1 + 4 * i2 + 2 * (i3 + 1) from by omega] at this)⟩ | ((repeat apply Exists.intro); exact ⟨⟨i3 + 1, by omega, by go_num, Hd (by have := H4.out; rwa [show 8 * i1 + 4 * i2 + 2 * i3 + 2 = 8 * i1 + 4 * i2 + 2 * (i3 + 1) from by omega] at this)⟩, rfl⟩)
         case measure => simp [intOf]; omega
      ·obtain rfl : i3 = 2 := by omega
       have hl3' : ¬ ((2 : Nat) : Int) < 2 := by omega
       gi_wp2
       go_roundw
       case rel => first | exact ⟨i2 + 1, by omega, by go_num, Hd (by have := H3.out; rwa [show 8 * i1 + 4 * i2 + 2 * 2 = 8 * i1 + 4 * (i2 + 1) from by omega] at this)⟩ | ((repeat apply Exists.intro); exact ⟨⟨i2 + 1, by omega, by go_num, Hd (by have := H3.out; rwa [show 8 * i1 + 4 * i2 + 2 * 2 = 8 * i1 + 4 * (i2 + 1) from by omega] at this)⟩, rfl⟩)
       case measure => simp [intOf]; omega
    ·obtain rfl : i2 = 2 := by omega
     have hl2' : ¬ ((2 : Nat) : Int) < 2 := by omega
     gi_wp2
     go_roundw
     case rel => first | exact ⟨i1 + 1, by omega, by go_num, Hd (by have := H2.out; rwa [show 8 * i1 + 4 * 2 = 8 * (i1 + 1) from by omega] at this)⟩ | ((repeat apply Exists.intro); exact ⟨⟨i1 + 1, by omega, by go_num, Hd (by have := H2.out; rwa [show 8 * i1 + 4 * 2 = 8 * (i1 + 1) from by omega] at this)⟩, rfl⟩)
     case measure => simp [intOf]; omega
  ·obtain rfl : i1 = 2 := by omega
   have hl1' : ¬ ((2 : Nat) : Int) < 2 := by omega
   gi_wp2
   go_end0
   obtain ⟨xs, O, hf1, hf2⟩ := HFIN.out _ H1.out
   exact ⟨⟨_, rfl⟩, .inl ⟨xs, hf1, O, hf2⟩⟩
end Go.Proofs.YtgmpelhphnmknaaGreat
namespace Go.Proofs.YtgmpelhphnmknaaGreat
open Go.RowKit Go.Shelf
structure MineN (N : Nat) (R X O : Nat → Prop) (W : World) : Prop where
 off : ∀ b, X b → ¬ O b
 rest : ∀ b, X b → ¬ R b
 cells : ∀ b, X b → ∃ o, W.heap[b]? = some o ∧ (o.isCells = true ∨ b < N)
theorem MineN.lt {N : Nat} {R X O : Nat → Prop} {W : World} (h : MineN N R X O W) {b : Nat} (hb : X b) : b < W.heap.size := by
 obtain ⟨o, h1, _⟩ := h.cells b hb
 exact (blkL h1)
structure StepN (N : Nat) (X : Nat → Prop) (W W' : World) (X' : Nat → Prop) : Prop where
 os : W'.os = W.os
 tape : W'.tape = W.tape
 output : W'.output = W.output
 size : W.heap.size ≤ W'.heap.size
 block : ∀ b, b < W.heap.size → ¬ X b → W'.heap[b]? = W.heap[b]?
 new : ∀ b, X' b → X b ∨ W.heap.size ≤ b
 cells : ∀ b, X' b → ∃ o, W'.heap[b]? = some o ∧ (o.isCells = true ∨ b < N)
section
variable {N : Nat} {R X X' X'' O : Nat → Prop} {W W' A B C : World}
theorem StepN.refl (h : MineN N R X O W) : StepN N X W W X := ⟨rfl, rfl, rfl, Nat.le_refl _, fun _ _ _ => rfl, fun _ h => .inl h, h.cells⟩
theorem StepN.below (h : MineN N R X O W) (hb : Below W.heap.size W W') : StepN N X W W' X := ⟨hb.os, hb.tape, hb.output, hb.size, fun b hl _ => hb.block b hl, fun _ h => .inl h, fun b hx => by
 obtain ⟨o, h1, h2⟩ := h.cells b hx
 exact ⟨o, (hb.block b (h.lt hx)).trans h1, h2⟩⟩
theorem StepN.setCell (h : StepN N X A B X') {b o : Nat} (hb : X b) (v : Value) : StepN N X A (B.setCell ⟨b, o, none⟩ v) X' :=
 ⟨h.os, h.tape, h.output, by have := h.size; simpa [World.setCell] using this, fun k hl hk => (Below.heap_setCell B ⟨b, o, none⟩ v k (fun e => hk (by rw [show k = b from e]; exact hb))).trans (h.block k hl hk), h.new, fun k hk => by
  obtain ⟨u, h1, h2⟩ := h.cells k hk
  by_cases e : k = b
  ·subst e
   cases u with
   | cells cur t f => exact ⟨.cells (cur.setIfInBounds o v) t f, by simp [World.setCell, Array.getElem?_modify, h1], .inl rfl⟩
   | _ =>
    refine ⟨_, by simp [World.setCell, Array.getElem?_modify, h1]; rfl, ?_⟩
    rcases h2 with h2 | h2
    ·simp [Obj.isCells] at h2
    ·exact .inr h2
  ·exact ⟨u, (heap_setCell_other B ⟨b, o, none⟩ k v e).trans h1, h2⟩⟩
theorem StepN.keepsFrom (h : StepN N X W W' X') (m : MineN N R X O W) : KeepsFrom N W W' :=
 ⟨h.size, fun k o hN hk ho => (h.block k (blkL hk) (fun hx => by
  obtain ⟨u, h1, h2⟩ := m.cells k hx
  rw [hk] at h1
  injection h1 with h1
  rcases h2 with h2 | h2
  ·rw [h1, h2] at ho
   cases ho
  ·omega)).trans hk⟩
theorem StepN.kept (h : StepN N X W W' X') (m : MineN N R X O W) (hO : ∀ b, O b → b < W.heap.size) (hR : ∀ b, R b → b < W.heap.size) : Kept (With O R) W W' :=
 ⟨h.size, fun b hb => hb.elim (fun h1 => h.block b (hO b h1) (fun h2 => m.off b h2 h1)) (fun h1 => h.block b (hR b h1) (fun h2 => m.rest b h2 h1))⟩
theorem StepN.bel {w0 : World} (h : StepN N X W W' X') (hX : ∀ b, X b → w0.heap.size ≤ b) (hb : Below w0.heap.size w0 W) : Below w0.heap.size w0 W' :=
 hb.trans ⟨h.os, h.tape, h.output, h.size, fun b hl => h.block b (Nat.lt_of_lt_of_le hl hb.size) (fun hx => by have := hX b hx; omega)⟩
theorem StepN.mine (h : StepN N X W W' X') (m : MineN N R X O W) (hO : ∀ b, O b → b < W.heap.size) (hR : ∀ b, R b → b < W.heap.size) : MineN N R X' O W' :=
 ⟨fun b hx ho => (h.new b hx).elim (fun h1 => m.off b h1 ho) (fun h1 => by have := hO b ho; omega), fun b hx hr => (h.new b hx).elim (fun h1 => m.rest b h1 hr) (fun h1 => by have := hR b hr; omega), h.cells⟩
end
def LoopN {α : Type} (R : Nat → Prop) (w0 : World) (N : Nat) (T : (Nat → Prop) → List α → World → Prop) (xs : List α) (O : Nat → Prop) (W : World) : Prop :=
 ∃ X, MineN N R X O W ∧ T X xs W ∧ Below w0.heap.size w0 W ∧ (∀ b, O b → N ≤ b) ∧ (∀ b, X b → w0.heap.size ≤ b) ∧ N ≤ W.heap.size
theorem LoopN.abide {α : Type} {R : Nat → Prop} {w0 : World} {N : Nat} (hN : w0.heap.size ≤ N) {T : (Nat → Prop) → List α → World → Prop} (hT : ∀ X xs W W', T X xs W → (∀ b, X b → W'.heap[b]? = W.heap[b]?) → T X xs W') : Abide (LoopN R w0 N T) := by
 rintro xs O W O' W' ⟨X, hm, ht, hb, hO, hX, hz⟩ tn
 have hk : ∀ b, X b → W'.heap[b]? = W.heap[b]? := fun b hx => tn.block b (hm.lt hx) (hm.off b hx)
 refine ⟨X, ⟨fun b hx h1 => ?_, hm.rest, fun b hx => ?_⟩, hT _ _ _ _ ht hk, hb.trans (tn.below hb.size (fun b h1 => Nat.le_trans hN (hO b h1))), fun b h1 => ?_, hX, Nat.le_trans hz tn.size⟩
 ·rcases (tn.own b).1 h1 with h2 | h2
  ·exact hm.off b hx h2
  ·have := hm.lt hx; omega
 ·obtain ⟨o, h1, h2⟩ := hm.cells b hx
  exact ⟨o, (hk b hx).trans h1, h2⟩
 ·rcases (tn.own b).1 h1 with h2 | h2
  ·exact hO b h2
  ·omega
theorem LoopN.booked {α : Type} {R : Nat → Prop} {w0 : World} {N : Nat} (hB : w0.heap.size ≤ N) {T : (Nat → Prop) → List α → World → Prop} (hT : ∀ X xs W W', T X xs W → (∀ b, X b → W'.heap[b]? = W.heap[b]?) → T X xs W') : Booked N (LoopN R w0 N T) := by
 rintro xs O W l o o' ⟨X, hm, ht, hb, hO, hX, hz⟩ hl ho hc
 have hne : ∀ b, X b → b ≠ l := fun b hx e => by
  obtain ⟨u, h1, h2⟩ := hm.cells b hx
  rw [e, ho] at h1
  injection h1 with h1
  rcases h2 with h2 | h2
  ·rw [← h1, hc] at h2
   cases h2
  ·omega
 have hk : ∀ b, X b → (W.putObj l o').heap[b]? = W.heap[b]? := fun b hx => World.putObj_heap_other (hne b hx)
 exact ⟨X, ⟨hm.off, hm.rest, fun b hx => by
  obtain ⟨u, h1, h2⟩ := hm.cells b hx
  exact ⟨u, (hk b hx).trans h1, h2⟩⟩, hT _ _ _ _ ht hk, hb.trans ⟨rfl, rfl, rfl, by simp, fun b hbl => World.putObj_heap_other (by omega)⟩, hO, hX, by simpa using hz⟩
def roundPostN {α : Type} (N : Nat) (X : Nat → Prop) (T : (Nat → Prop) → List α → World → Prop) (xs : List α) (W : World) : Exit → Act → World → Prop
 | .normal, _, W' => ∃ X', StepN N X W W' X' ∧ T X' xs W'
 | _, _, _ => False
theorem wp_seq {α : Type} {P : Program} {g : Operand} {ps : Array Tmp} {assign body : Code} {Q : Exit → Act → World → Prop} {a : Act} {w : World} {gf : Nat} {lb : Array Value} {encs : α → Array Value} {R : Nat → Prop} {Nx : List α → α → Prop} {S Sp : List α → Prop}
  (hg : a.eval g = .func (.func gf) #[] lb) (eg : ∀ args w, (callFunc gf args).run P w = .ok (.enter gf args) w) (hseq : SeqOwn P gf lb encs R (fun _ _ _ => True) Nx S Sp w) (hR : ∀ b, R b → b < w.heap.size)
  (w0 : World) (hw : Below w0.heap.size w0 w) (hps : ∀ x, (encs x).size = ps.size)
  (X0 : Nat → Prop) (hX0 : ∀ b, X0 b → w0.heap.size ≤ b ∧ ¬ R b ∧ b < w.heap.size)
  (T : (Nat → Prop) → List α → World → Prop) (hT : ∀ X xs W W', T X xs W → (∀ b, X b → W'.heap[b]? = W.heap[b]?) → T X xs W')
  (h0 : T X0 [] w) (a1 : α → Act)
  (hassign : ∀ (l : Nat) (x : α) (W : World) (K : Act → World → Prop), K (a1 x) W → assign.wpIn (Fence.wide.inRound l) 4 P (Exit.then K (fun _ _ _ => False)) { tmps := (ps.zip (encs x)).foldl (fun t (p, v) => t.setIfInBounds p v) a.tmps, defers := [] } W)
  (hbody : ∀ (l : Nat) (pre : List α) (x : α) (O X : Nat → Prop) (W : World), w.heap.size ≤ W.heap.size → MineN w.heap.size R X O W → T X pre W → Below w0.heap.size w0 W → (∀ b, R b → W.heap[b]? = w.heap[b]?) → Nx pre x → body.wpIn (Fence.wide.inRound l) 4 P (roundPostN w.heap.size X T (pre ++ [x]) W) (a1 x) W)
  (hdone : ∀ (D : Nat) (xs : List α) (X : Nat → Prop) (W : World), w.heap.size ≤ D → D < W.heap.size → ¬ X D → S xs → T X xs W → Below w0.heap.size w0 W → (∀ b, R b → W.heap[b]? = w.heap[b]?) → W.heap[D]? = some (.deferred (some [])) → Q .normal { a with defers := { target := .collected D, args := #[] } :: a.defers } W) :
  (Code.rangeFunc g ps assign body).wp P Q a w := by
 refine (wpIn_wide (n := 6)).1 ?_
 have hN : w0.heap.size ≤ w.heap.size := hw.size
 let I : List α → (Nat → Prop) → World → Prop := fun xs O W => LoopN R w0 w.heap.size T xs O W ∧ ((∀ b, R b → W.heap[b]? = w.heap[b]?) ∧ w.heap.size ≤ W.heap.size)
 let Ix : Code → List α → (Nat → Prop) → World → Prop := fun c xs O W => False
 have hRa : ∀ O W O' W', (∀ b, O b → w.heap.size ≤ b) → ((∀ b, R b → W.heap[b]? = w.heap[b]?) ∧ w.heap.size ≤ W.heap.size) → Turn O W O' W' → (∀ b, R b → W'.heap[b]? = w.heap[b]?) ∧ w.heap.size ≤ W'.heap.size := fun O W O' W' hO h tn =>
  ⟨fun b hb => (tn.block b (by have := hR b hb; omega) (fun h1 => by have := hO b h1; have := hR b hb; omega)).trans (h.1 b hb), Nat.le_trans h.2 tn.size⟩
 refine wpIn_range_own (P := P) (g := g) hg eg hseq hR (Below.refl _ _) hps
  (fun _ _ _ _ _ _ _ => trivial) I Ix ?hI (fun c => fun _ _ _ _ _ h _ => h) ?hIb (fun c => fun _ _ _ _ _ _ h _ _ _ => h) ?h0 (fun x a' O W => a' = a1 x) (fun _ _ _ _ _ _ h _ => h) ?hassign ?hbody ?hdone ?hstop
 case hI =>
  rintro xs O W O' W' ⟨h1, h2⟩ tn
  obtain ⟨X, hm, ht, hb, hO, hX, hz⟩ := id h1
  exact ⟨LoopN.abide hN hT _ _ _ _ _ h1 tn, hRa _ _ _ _ hO h2 tn⟩
 case hIb =>
  rintro xs O W l o o' ⟨h1, h2⟩ hl ho hc
  exact ⟨LoopN.booked hN hT _ _ _ _ _ _ h1 hl ho hc, ⟨fun b hb => (World.putObj_heap_other (by have := hR b hb; omega)).trans (h2.1 b hb), by simpa using h2.2⟩⟩
 case h0 =>
  intro W hb
  have hk : ∀ b, X0 b → W.heap[b]? = w.heap[b]? := fun b hx => hb.block b (hX0 b hx).2.2
  exact ⟨⟨X0, ⟨fun b _ h => h, fun b hx => (hX0 b hx).2.1, fun b hx => by
   have hl := (hX0 b hx).2.2
   exact ⟨w.heap[b], (hk b hx).trans (Array.getElem?_eq_getElem hl), .inr hl⟩⟩, hT _ _ _ _ h0 hk, hw.trans (hb.mono hw.size), fun b h => h.elim, fun b hx => (hX0 b hx).1, hb.size⟩, ⟨fun b h => hb.block b (hR b h), hb.size⟩⟩
 case hassign =>
  rintro l pre x O W K hz hO hI hsh hK
  exact hassign l x W K (hK _ _ (KeepsFrom.refl _ _) (Kept.refl _ _) hI rfl hsh)
 case hbody =>
  rintro l pre x a' O W hl hz hO ⟨⟨X, hm, ht, hb, hOn, hX, hzz⟩, ⟨hrr, hww⟩⟩ rfl hsh hnx
  have hOl : ∀ b, O b → b < W.heap.size := fun b h => (hO b h).2
  have hRl : ∀ b, R b → b < W.heap.size := fun b h => by have := hR b h; omega
  have hX' : ∀ W' X', StepN w.heap.size X W W' X' → ∀ b, X' b → w0.heap.size ≤ b := fun W' X' st b hx => (st.new b hx).elim (hX b) (fun h => by have := hb.size; omega)
  refine wpIn_mono (hbody l pre x O X W hww hm ht hb hrr hnx) ?_
  intro e a' W' hp
  cases e with
  | normal =>
   obtain ⟨X', st, h1⟩ := hp
   have mn := st.mine hm hOl hRl
   exact ⟨st.keepsFrom hm, st.kept hm hOl hRl, ⟨X', mn, h1, st.bel hX hb, hOn, hX' _ _ st, Nat.le_trans hzz st.size⟩, ⟨fun b h => (st.block b (hRl b h) (fun hx => hm.rest b hx h)).trans (hrr b h), Nat.le_trans hww st.size⟩⟩
  | _ => exact hp.elim
 case hdone =>
  rintro D xs O W hD hDO hS ⟨⟨X, hm, ht, hb, hOn, hX, hzz⟩, ⟨hrr, hww⟩⟩ hDD
  have hlt : D < W.heap.size := (blkL hDD)
  refine hdone D xs X W hD hlt (fun hx => ?_) hS ht hb hrr hDD
  obtain ⟨u, h1, h2⟩ := hm.cells D hx
  rw [hDD] at h1
  injection h1 with h1
  rcases h2 with h2 | h2
  ·rw [← h1] at h2
   cases h2
  ·omega
 case hstop =>
  rintro D c pre O W hD hDO hxs h hDD
  exact h.elim
end Go.Proofs.YtgmpelhphnmknaaGreat
