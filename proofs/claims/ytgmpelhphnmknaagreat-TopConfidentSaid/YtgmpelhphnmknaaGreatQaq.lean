/- Texts put together: ImApp, RfA, RfB. -/
import Derived.Test.YtgmpelhphnmknaaGreatQaj
import Derived.Test.YtgmpelhphnmknaaGreatQap
set_option maxRecDepth 100000
set_option maxHeartbeats 8000000
set_option linter.unusedVariables false
set_option linter.unusedSimpArgs false
namespace Go.Proofs.YtgmpelhphnmknaaGreat
open Go.RowKit
theorem run_append_nilsrc {P : Program} {w : World} (base : Nat) (t ty e : TypeId) (i : TypeInfo) (size : Nat) (ht : P.underlying t = some (.slice e)) (hi : P.info? e = some i)
  (v : Value) (n : Nat) (xs : List Value) (hown : w.ownsRow base e size v n xs) (c : Nat) : (Builtin.append_ #[t, t] ty #[v, .slice none 0 c]).run P w = .ok v w := by
 rcases hown.2 with ⟨rfl, rfl⟩ | ⟨g, cap, cur, rfl, _, _, hnc, _⟩
 ·simp [Builtin.append_, run_underlying ht, sizeOf, typeInfo, hi, Builtin.lenOf, Builtin.firstCells]
 ·simp [Builtin.append_, run_underlying ht, sizeOf, typeInfo, hi, Builtin.lenOf, Builtin.firstCells, hnc, storeCells]
theorem wp_append_src {P : Program} {w : World} {o : Oper} {a : Act} {K : Act → World → Prop} {Q : Exit → Act → World → Prop} (s x : Operand) (t : TypeId)
  (ho : o.op = .call { callee := .builtin .append, args := #[s, x], argTypes := #[t, t] })
  (base : Nat) (e : TypeId) (i : TypeInfo) (z : Value) (size bytes : Nat) (ht : P.underlying t = some (.slice e)) (hi : P.info? e = some i) (hz : i.zero = some z)
  (hsize : i.size = size) (hby : i.bytes = bytes) (hzs : z.cells.size = size) (hsz : 0 < size)
  (v : Value) (n : Nat) (xs : List Value) (hs : a.eval s = v) (hown : w.ownsRow base e size v n xs)
  (oa : Option Addr) (m c : Nat) (news : List Value) (hx : a.eval x = .slice oa m c) (hl : news.length = m * size) (hsrc : m = 0 ∨ ∃ ad, oa = some ad ∧ ∀ j u, news[j]? = some u → w.cell? (ad.add j) = some u) (h1 : ∀ u ∈ news, u.oneCell' = true)
  (h63 : n + m ≤ maxLen) (hbytes : (n + m) * bytes ≤ 140737488355328) (hbase : base ≤ w.heap.size)
  (h : ∀ v' w', w'.ownsRow base e size v' (n + m) (xs ++ news) → w.grownBy w' v.ownBlock → K (a.put o.dst v') w') : o.wp P a w K Q := by
 cases oa with
 | none =>
  rcases hsrc with h0 | ⟨ad, h0, _⟩
  ·subst h0
   have hn : news = [] := List.eq_nil_of_length_eq_zero (by omega)
   subst hn
   have hr := run_append_nilsrc (P := P) (w := w) base t o.type e i size ht hi v n xs hown c
   unfold Oper.wp execOp
   simp only [ho, resolve, invoke, builtin, Sem.run_bind, Sem.run_pure, Result.andThen_ok, List.map_toArray, List.map_cons, List.map_nil, hs, hx, hr]
   exact h v w (by simpa using hown) ⟨rfl, rfl, rfl, Nat.le_refl _, fun _ _ _ => rfl⟩
  ·cases h0
 | some ad =>
  refine wp_append_own w s x t ho base e i z size bytes ht hi hz hsize hby hzs hsz v n xs hs hown ad m c news hx hl ?_ h1 h63 hbytes hbase (fun v' w' h2 h3 _ => h v' w' h2 h3)
  rcases hsrc with h0 | ⟨ad', h0, hc⟩
  ·subst h0
   have hn : news = [] := List.eq_nil_of_length_eq_zero (by omega)
   subst hn
   intro j u hu
   simp at hu
  ·injection h0 with h0
   subst h0
   exact hc
theorem step_append_src {P : Program} {w : World} {ops : Array Oper} {o : Oper} {a : Act} {K : Act → World → Prop} {Q : Exit → Act → World → Prop} {E : Prop} (hgd : o.guard = none) (s x : Operand) (t : TypeId)
  (ho : o.op = .call { callee := .builtin .append, args := #[s, x], argTypes := #[t, t] })
  (base : Nat) (e : TypeId) (i : TypeInfo) (z : Value) (size bytes : Nat) (ht : P.underlying t = some (.slice e)) (hi : P.info? e = some i) (hz : i.zero = some z)
  (hsize : i.size = size) (hby : i.bytes = bytes) (hzs : z.cells.size = size) (hsz : 0 < size)
  (v : Value) (n : Nat) (xs : List Value) (hs : a.eval s = v) (hown : w.ownsRow base e size v n xs)
  (oa : Option Addr) (m c : Nat) (news : List Value) (hx : a.eval x = .slice oa m c) (hl : news.length = m * size) (hsrc : m = 0 ∨ ∃ ad, oa = some ad ∧ ∀ j u, news[j]? = some u → w.cell? (ad.add j) = some u) (h1 : ∀ u ∈ news, u.oneCell' = true)
  (h63 : n + m ≤ maxLen) (hbytes : (n + m) * bytes ≤ 140737488355328) (hbase : base ≤ w.heap.size)
  (h : ∀ v' w', w'.ownsRow base e size v' (n + m) (xs ++ news) → w.grownBy w' v.ownBlock → K (a.put o.dst v') w') : if Region.wanted o (yielded ops a.tmps) = true then Oper.wp P o a w K Q else E := by
 have hw : Region.wanted o (yielded ops a.tmps) = true := by simp [Region.wanted, hgd]
 rw [if_pos hw]
 exact wp_append_src s x t ho base e i z size bytes ht hi hz hsize hby hzs hsz v n xs hs hown oa m c news hx hl hsrc h1 h63 hbytes hbase h
def sC (f : Nat → SV) (n : Nat) : List Value := (List.range (n * 2)).map fun j => if j % 2 = 0 then .int .i64 (f (j / 2)).lo else .int .i64 (f (j / 2)).hi
theorem sC_len {f : Nat → SV} {n : Nat} : (sC f n).length = n * 2 := by simp [sC]
theorem sC_get {f : Nat → SV} {n j : Nat} (h : j < n * 2) : (sC f n)[j]? = some (if j % 2 = 0 then .int .i64 (f (j / 2)).lo else .int .i64 (f (j / 2)).hi) := by simp [sC, h]
theorem sC_cat {f g : Nat → SV} {a b : Nat} : sC f a ++ sC g b = sC (fun i => if i < a then f i else g (i - a)) (a + b) := by
 apply List.ext_getElem?
 intro j
 by_cases h : j < a * 2
 ·rw [List.getElem?_append_left (by rw [sC_len]; exact h), sC_get h, sC_get (by omega), if_pos (by omega : j / 2 < a)]
 ·rw [List.getElem?_append_right (by rw [sC_len]; omega), sC_len]
  by_cases h2 : j < (a + b) * 2
  ·rw [sC_get (by omega), sC_get h2, if_neg (by omega : ¬ j / 2 < a), show (j - a * 2) % 2 = j % 2 by omega, show (j - a * 2) / 2 = j / 2 - a by omega]
  ·rw [List.getElem?_eq_none_iff.2 (by rw [sC_len]; omega), List.getElem?_eq_none_iff.2 (by rw [sC_len]; omega)]
theorem sC_congr {f g : Nat → SV} {n : Nat} (h : ∀ i, i < n → f i = g i) : sC f n = sC g n := by
 apply List.ext_getElem?
 intro j
 by_cases hj : j < n * 2
 ·rw [sC_get hj, sC_get hj, h (j / 2) (by omega)]
 ·rw [List.getElem?_eq_none_iff.2 (by rw [sC_len]; omega), List.getElem?_eq_none_iff.2 (by rw [sC_len]; omega)]
def NewSpans (w w' : World) (a : Option Addr) (n : Nat) (f : Nat → SV) : Prop := ∃ b, a = some ⟨b, 0, none⟩ ∧ w.heap.size ≤ b ∧ b < w'.heap.size ∧ ∀ i, i < n → w'.cell? ⟨b, i * 2, none⟩ = some (.int .i64 (f i).lo) ∧ w'.cell? ⟨b, i * 2 + 1, none⟩ = some (.int .i64 (f i).hi)
theorem NewSpans.spans {w w' : World} {a : Option Addr} {n : Nat} {f : Nat → SV} (h : NewSpans w w' a n f) (hn : n ≤ maxLen) : Spans w'.heap.size w' a n f := by
 obtain ⟨b, ha, h1, h2, h3⟩ := h
 exact ⟨hn, .inr ⟨b, 0, ha, h2, fun i hi => by rw [Nat.zero_add]; exact h3 i hi⟩⟩
end Go.Proofs.YtgmpelhphnmknaaGreat
namespace Go.Proofs.YtgmpelhphnmknaaGreat
open Go.RowKit Go.Shelf
theorem r6gcd_any (out D : Nat) (w : World) (h1 : out ≤ 216000) (h2 : D ≤ 216000) : Calls Tryz.prog 168 #[.int .i64 (out : Int), .int .i64 (D : Int)] w fun e w' => e = .returned (.int .i64 (Nat.gcd out D : Int)) ∧ Below w.heap.size w w' := by
 go_enter Tryz.func168, Tryz.ntmps168
 go_wp2
 go_loopw [0, 1] (fun s0 s1 wx => ∃ a b : Nat, s0 = .int .i64 (a : Int) ∧ s1 = .int .i64 (b : Int) ∧ Nat.gcd a b = Nat.gcd out D ∧ a ≤ 216000 ∧ b ≤ 216000 ∧ Hid (Below w.heap.size w wx)) (fun _ s1 _ => (intOf s1).toNat)
 case atStart => exact ⟨out, D, rfl, rfl, rfl, h1, h2, Hd (Below.refl _ _)⟩
 case round =>
  obtain ⟨a, b, rfl, rfl, hgc, ha, hb, HB⟩ := hrel
  by_cases hb0 : b = 0
  ·subst hb0
   rw [Nat.gcd_zero_right] at hgc
   subst hgc
   go_wp2
   go_ret
   exact ⟨rfl, HB.out⟩
  ·have hbn : ((b : Int) == 0) = false := beq_eq_false_iff_ne.2 (by omega)
   have hmo : (a : Int).tmod (b : Int) = ((a % b : Nat) : Int) := rfl
   have hlt2 : a % b < b := Nat.mod_lt _ (by omega)
   have hg2 : Nat.gcd b (a % b) = Nat.gcd out D := by rw [← hgc, Nat.gcd_comm b, ← Nat.gcd_rec, Nat.gcd_comm]
   generalize a % b = m at *
   go_upto_region 2 with (fail)
   (refine wp_region_calm (wr.heap.size) (by kernel_rfl) (by kernel_rfl) ?_; (repeat (first | go_big_quiet_step (fail) | quiet_step (fail))); refine wpQuiet_nil (wqn ?_); intro xq)
   have HB2 := Hd (HB.out.trans ((Calm.below xq).mono HB.out.size))
   generalize Calm.val xq = wq at *
   go_wp2
   go_roundw
   case rel => first | exact ⟨b, m, rfl, rfl, hg2, by omega, by omega, HB2⟩ | ((repeat apply Exists.intro); exact ⟨⟨b, m, rfl, rfl, hg2, by omega, by omega, HB2⟩, rfl⟩)
   case measure => simp [intOf]; omega
def lC (l : List Int) : List Value := l.map fun x => .int .i64 x
theorem lC_len (l : List Int) : (lC l).length = l.length := by simp [lC]
theorem lC_get {l : List Int} {j : Nat} (h : j < l.length) : (lC l)[j]? = some (.int .i64 (l.getD j 0)) := by simp [lC, List.getD_eq_getElem?_getD, h]
theorem lC_one (l : List Int) : ∀ u ∈ lC l, u.oneCell' = true := by
 intro u hu
 simp only [lC, List.mem_map] at hu
 obtain ⟨x, _, rfl⟩ := hu
 rfl
theorem own_pos {W : World} {B : Nat} {l : List Int} {a : Option Addr} {n c : Nat} (h : W.ownsRow B 3 1 (.slice a n c) l.length (lC l)) (hl : 0 < l.length) : ∃ b, a = some ⟨b, 0, none⟩ ∧ b < W.heap.size ∧ n = l.length ∧ l.length ≤ c ∧ c ≤ maxLen ∧ ∀ j, j < l.length → W.cell? ⟨b, j, none⟩ = some (.int .i64 (l.getD j 0)) := by
 rcases h.2 with ⟨e, h0⟩ | ⟨g, cap, cur, e, h1, h2, h3, h4, _⟩
 ·omega
 ·injection e with e1 e2 e3
  subst e1 e2 e3
  refine ⟨g, rfl, (blkL h2), rfl, h3, h4, fun j hj => ?_⟩
  rw [h.cellAt j (show j < l.length * 1 by omega), lC_get hj]
theorem r6Ticks_any (r : RY) (w : World) (hr : r.Ok) : Calls Tryz.prog 116 #[r.val] w fun e w' => e = .returned (.int .i64 (tkF r : Int)) ∧ Below w.heap.size w w' := by
 have HR := Lib.hid hr
 have HE := Hd (show tkF r = tkN r 3 from rfl)
 generalize tkF r = RES at *
 unfold RY.val
 clear hr
 go_enter Tryz.func116, Tryz.ntmps116
 go_upto_region 1 with (fail)
 have HB := Hd (rk_below w (.cells #[.int .i64 r.x, .int .i64 r.y, .int .i64 r.z, .int .i64 r.dx, .int .i64 r.dy, .int .i64 r.dz] 33))
 have hn := heap_alloc_new w (.cells #[.int .i64 r.x, .int .i64 r.y, .int .i64 r.z, .int .i64 r.dx, .int .i64 r.dy, .int .i64 r.dz] 33)
 generalize World.alloc w _ = V at *
 have k3 := cell_of_row _ _ 3 _ _ _ hn
 have k4 := cell_of_row _ _ 4 _ _ _ hn
 have k5 := cell_of_row _ _ 5 _ _ _ hn
 clear hn
 go_upto_region 3 with (fail)
 have HB2 := Hd (HB.out.trans ((rk_below V (.cells #[.int .i64 r.dx, .int .i64 r.dy, .int .i64 r.dz] 3)).mono HB.out.size))
 have HL := Hd (heap_alloc_new V (.cells #[.int .i64 r.dx, .int .i64 r.dy, .int .i64 r.dz] 3))
 clear HB k3 k4 k5
 generalize V.heap.size = kb at *
 generalize World.alloc V _ = V2 at *
 go_wp2
 go_loopw [3, 5] (fun s3 s5 wr => ∃ i : Nat, i ≤ 3 ∧ s5 = .int .i64 (i : Int) ∧ s3 = .int .i64 (tkN r i : Int) ∧ Hid (Below V2.heap.size V2 wr)) (fun _ s5 _ => 3 - (intOf s5).toNat)
 case atStart => exact ⟨0, by omega, rfl, rfl, Hd (Below.refl _ _)⟩
 case round =>
  obtain ⟨i, hi, rfl, rfl, HW⟩ := hrel
  by_cases hlt : i < 3
  ·have hlt' : (i : Int) < 3 := by omega
   have HSU := Hd (tkN_succ (r := r) hlt)
   obtain ⟨hb1, hb2⟩ := tn_bound HR.out i
   have HLr := (HW.out.block _ (blkL HL.out)).trans HL.out
   have hd : wr.cell? ⟨kb, i, none⟩ = some (.int .i64 (tnF r i)) := by
    match i, hlt with
    | 0, _ => exact cell_of_row _ _ 0 _ _ _ HLr
    | 1, _ => exact cell_of_row _ _ 1 _ _ _ HLr
    | 2, _ => exact cell_of_row _ _ 2 _ _ _ HLr
   obtain ⟨ho1, ho2⟩ := tkN_bound HR.out i
   clear HLr
   generalize tnF r i = d at *
   generalize tkN r i = out at *
   have HMX := Hd (max_neg d)
   have HMY := Hd (show max d (-d) = ((d.natAbs : Nat) : Int) from by omega)
   have HSE := Hd (show tkS out d = if d.natAbs = 0 then out else out / Nat.gcd out d.natAbs * d.natAbs from rfl)
   have hD60 : d.natAbs ≤ 60 := by omega
   go_upto_region 6 with (fail)
   go_region
   first | rw [HMX.out] | rw [HMY.out]
   generalize d.natAbs = D at *
   by_cases h0 : D = 0
   ·subst h0
    have HS2 := Hd (show tkN r (i + 1) = out from by rw [HSU.out, HSE.out, if_pos rfl])
    go_wp2
    go_roundw
    case rel => exact ⟨i + 1, by omega, by go_num, by rw [HS2.out], Hd (HW.out.drew)⟩
    case measure => simp [intOf]; omega
   ·have HS2 := Hd (show tkN r (i + 1) = out / Nat.gcd out D * D from by rw [HSU.out, HSE.out, if_neg h0])
    have h0' : ((D : Int) == 0) = false := beq_eq_false_iff_ne.2 (by omega)
    have hg : Nat.gcd out D ≠ 0 := by have := Nat.gcd_pos_of_pos_left D (show 0 < out by omega); omega
    have HGC := Hd (fun (W : World) => r6gcd_any out D W (by omega) (by omega))
    generalize Nat.gcd out D = G at *
    have hq1 : (out : Int).tdiv (G : Int) = ((out / G : Nat) : Int) := rfl
    have hq2 : out / G ≤ 216000 := Nat.le_trans (Nat.div_le_self _ _) ho2
    have hq3 : out / G * D ≤ 216000 * 60 := Nat.mul_le_mul hq2 hD60
    have hq4 : ((out / G : Nat) : Int) * (D : Int) = ((out / G * D : Nat) : Int) := by rw [Int.natCast_mul]
    have hG : ((G : Int) == 0) = false := beq_eq_false_iff_ne.2 (by omega)
    have HWD := Hd (HW.out.drew)
    clear HSE HSU HMX HMY
    generalize out / G = q at *
    generalize q * D = o2 at *
    go_wp2_with (go_at_call 168; refine (HGC.out _).mono ?_; rintro e w2 ⟨rfl, hb2'⟩; have HW2 := Hd (HWD.out.trans (hb2'.mono HWD.out.size)); clear hb2')
    go_roundw
    case rel => exact ⟨i + 1, by omega, by go_num, by rw [HS2.out], HW2⟩
    case measure => simp [intOf]; omega
  ·obtain rfl : i = 3 := by omega
   have hlt' : ¬ (3 : Int) < 3 := by omega
   rw [← HE.out]
   go_wp2
   go_ret
   exact ⟨rfl, HB2.out.trans (HW.out.mono HB2.out.size)⟩
theorem r6cell_any (T b t c S p q : Int) (w : World) (hT : 1 ≤ T ∧ T ≤ 216000) (hb : -100000 ≤ b ∧ b ≤ 100000) (ht : -60 ≤ t ∧ t ≤ 60) (hc : 1 ≤ c ∧ c ≤ 12) (hS : 1 ≤ S ∧ S ≤ 1000) (hp : 0 ≤ p ∧ p ≤ 43200000000) (hq : 0 ≤ q ∧ q ≤ 43200000000) :
  Calls Tryz.prog 167 #[.int .i64 T, .int .i64 b, .int .i64 t, .int .i64 c, .int .i64 S, .int .i64 p, .int .i64 q] w fun e w' => e = .returned (.int .i64 (cXR T b t c S p q)) ∧ w = w' := by
 have HE := Hd (show cXR T b t c S p q = if 2 * T * b + t * (p + q) < 0 then -1 else if 2 * T * S * c ≤ 2 * T * b + t * (p + q) then -1 else (2 * T * b + t * (p + q)).tdiv (2 * T * S) from rfl)
 generalize cXR T b t c S p q = RES at *
 have h1 := rk_mul_abs (x := 2 * T) (y := b) (K := 432000) (M := 100000) (by decide) (by decide) (by omega) (by omega)
 have h2 := rk_mul_abs (x := t) (y := p + q) (K := 60) (M := 86400000000) (by decide) (by decide) (by omega) (by omega)
 have h3 := rk_mul_abs (x := 2 * T) (y := S) (K := 432000) (M := 1000) (by decide) (by decide) (by omega) (by omega)
 have h4 := rk_mul_abs (x := 2 * T * S) (y := c) (K := 432000000) (M := 12) (by decide) (by decide) (by omega) (by omega)
 have h5 : 0 < 2 * T * S := Int.mul_pos (by omega) (by omega)
 have h6 := tdiv_abs (2 * T * b + t * (p + q)) (2 * T * S) 5300000000000 (by omega)
 generalize hTb : 2 * T * b = Tb at *
 generalize htp : t * (p + q) = tp at *
 generalize hTS : 2 * T * S = TS at *
 generalize hTSc : TS * c = TSc at *
 have hTS0 : (TS == 0) = false := beq_eq_false_iff_ne.2 (by omega)
 have h7 : -5300000000000 ≤ Tb + tp ∧ Tb + tp ≤ 5300000000000 := by omega
 generalize hP : Tb + tp = P at *
 generalize hQ : P.tdiv TS = Q at *
 by_cases e1 : P < 0
 ·rw [if_pos e1] at HE
  go_enter Tryz.func167, Tryz.ntmps167
  go_wp2
  go_ret
  exact ⟨congrArg (fun x => Ending.returned (Value.int .i64 x)) HE.out.symm, rfl⟩
 ·by_cases e2 : TSc ≤ P
  ·rw [if_neg e1, if_pos e2] at HE
   go_enter Tryz.func167, Tryz.ntmps167
   go_wp2
   go_ret
   exact ⟨congrArg (fun x => Ending.returned (Value.int .i64 x)) HE.out.symm, rfl⟩
  ·rw [if_neg e1, if_neg e2] at HE
   go_enter Tryz.func167, Tryz.ntmps167
   go_wp2
   go_ret
   exact ⟨congrArg (fun x => Ending.returned (Value.int .i64 x)) HE.out.symm, rfl⟩
end Go.Proofs.YtgmpelhphnmknaaGreat
namespace Go.Proofs.YtgmpelhphnmknaaGreat
open Go.RowKit Go.Shelf
theorem htk_RfB {P : Program} {md : Region.Mode} {Q : Exit → Act → World → Prop} {S : World → Prop} {l : List Oper} {n f : Nat} {listed : Array Bool} {a : Act} {w : World} {v : Value} {oi : Oper} {X : Prop} (i : Nat) (q : X) (hi : l.toArray[i]? = some oi := by rfl) (hB : TkB md l n listed i = true := by kernel_rfl) (hQ : ∀ c a w, Q (.panic c) (a.put oi.dst v) w → Q (.panic c) a w := by exact fun _ _ _ h => h) (hy : YieldsIf P l.toArray S oi v a := by (refine Or.inl ⟨by rfl, ?_⟩; intro w' hSw; (try dsimp only at hSw); (try simp only [hng]); go_simp; (try with_reducible rfl))) (hS : S w := by assumption) (hx : X → headH P md l.toArray Q S n (tailL P md l Q n) f (listed.setIfInBounds i true) (a.put oi.dst v) w := by (intro qq; refine hnm ?_; exact qq)) : headH P md l.toArray Q S n (tailL P md l Q n) (f + 1) listed a w := headH_take hi hB hQ hy hS (hx q)
def PutRes (B : Nat) (l : List Int) (w : World) (e : Ending) (w' : World) : Prop := ∃ a c, e = .returned (.slice a l.length c) ∧ w'.ownsRow B 3 1 (.slice a l.length c) l.length (lC l) ∧ Below w.heap.size w w'
structure NbAt (nb : Nat) (n : Int) (W : World) : Prop where
 cell : W.heap[nb]? = some (.cells #[.int .i64 n] 3)
theorem NbAt.lt {nb : Nat} {n : Int} {W : World} (h : NbAt nb n W) : nb < W.heap.size := (blkL h.cell)
theorem NbAt.new (W : World) (n : Int) : NbAt W.heap.size n (W.alloc (.cells #[.int .i64 n] 3)) := ⟨heap_alloc_new W _⟩
theorem NbAt.keep {nb : Nat} {n : Int} {W W' : World} (h : NbAt nb n W) (hk : W'.heap[nb]? = W.heap[nb]?) : NbAt nb n W' := ⟨hk.trans h.cell⟩
theorem NbAt.src {nb : Nat} {n : Int} {W : World} (h : NbAt nb n W) : ∀ j u, (lC [n])[j]? = some u → W.cell? ((⟨nb, 0, none⟩ : Addr).add j) = some u := fun j u hu => by
 have hj : j < 1 := by have := (List.getElem?_eq_some_iff.1 hu).1; simpa [lC] using this
 have : j = 0 := by omega
 subst this
 rw [addr_add, ← hu]
 exact cell_of_row _ _ 0 _ _ _ h.cell
theorem two_RfB {P : Prop} (h : P := by ((rcases hi0 with rfl | rfl; (· (refine headH_op rfl (fun K hK => ?_); refine step_append_src rfl _ _ 24 rfl w.heap.size 3 jt (.int .i64 0) 1 8 Tryz.underlying24 hjt hj0 hj1 hj2 rfl (by decide) (.slice none 0 0) 0 [] rfl (World.ownsRow_nil _ _ _ _) _ k _ (lC (l.take k)) rfl (by rw [lC_len, List.length_take, HN0.out]; omega) (HT1.out _ HB.out) (lC_one _) (by unfold maxLen; omega) (by omega) HB.out.size ?_; intro v1 W1 hown hgrow; rw [Nat.zero_add, List.nil_append] at hown; have HO1 := Lib.hid hown; have HBx := Hd (show Below w.heap.size w W1 from HB.out.grown hgrow HB.out.size (fun k e => by cases e)); (try replace HN := Hd (HN.out.keep (hgrow.block _ (HN.out.lt) (by simp [Value.ownBlock])))); clear HB hown hgrow; have HB := HBx; clear HBx; (refine hK.out _ _ trivial (fun hS => ?_); clear hK K; refine hnm ?_)); refine headH_one 5 ?_; (refine headH_op rfl (fun K hK => ?_); (try simp only [hng]); go_simp; have HN := Hd (NbAt.new W1 n); replace HO1 := Hd (own_below HO1.out (rk_below W1 (.cells #[.int .i64 n] 3))); replace HB := Hd (HB.out.trans ((rk_below W1 (.cells #[.int .i64 n] 3)).mono HB.out.size)); generalize (W1).heap.size = nb at *; generalize World.alloc W1 _ = W2 at *; (refine hK.out _ _ trivial (fun hS => ?_); clear hK K; refine hnm ?_)); refine headH_one 6 ?_; (refine headH_op rfl (fun K hK => ?_); refine step_append_src rfl _ _ 24 rfl w.heap.size 3 jt (.int .i64 0) 1 8 Tryz.underlying24 hjt hj0 hj1 hj2 rfl (by decide) v1 k _ rfl HO1.out _ 1 _ (lC [n]) rfl rfl (.inr ⟨⟨nb, 0, none⟩, rfl, HN.out.src⟩) (lC_one _) (by unfold maxLen; omega) (by omega) HB.out.size ?_; intro v2 W3 hown hgrow; have HO2 := Lib.hid hown; replace HB := Hd (show Below w.heap.size w W3 from HB.out.grown hgrow HB.out.size (fun k e => (HO1.out.lt k e).1)); clear hown hgrow HO1 HN; (refine hK.out _ _ trivial (fun hS => ?_); clear hK K; refine hnm ?_)); refine headH_one 10 ?_; (refine headH_op rfl (fun K hK => ?_); refine step_append_src rfl _ _ 24 rfl w.heap.size 3 jt (.int .i64 0) 1 8 Tryz.underlying24 hjt hj0 hj1 hj2 rfl (by decide) v2 (k + 1) _ rfl HO2.out _ (N - k) _ (lC (l.drop k)) rfl (by rw [lC_len, List.length_drop, HN0.out, Nat.mul_one]) (if hcap2 : c = k then Or.inl (by omega) else Or.inr ⟨⟨b, k, none⟩, if_neg hcap2, HT3.out _ HB.out⟩) (lC_one _) (by unfold maxLen; omega) (by omega) HB.out.size ?_; intro v3 W4 hown hgrow; have HO3 := Hd (HR3.out _ _ (show Below w.heap.size w W4 from HB.out.grown hgrow HB.out.size (fun k e => (HO2.out.lt k e).1)) hown); clear HB hown hgrow HO2; (refine hK.out _ _ trivial (fun hS => ?_); clear hK K; refine hnm ?_)); (change tailL _ _ _ _ _ _ _ _; refine ⟨by kernel_rfl, ?_⟩; simp only [List.drop_succ_cons, List.drop_zero]; go_wp2; exact HO3.out)); (· (refine headH_op rfl (fun K hK => ?_); (try simp only [hng]); go_simp; have HN := Hd (NbAt.new wd n); (try replace HO1 := Hd (own_below HO1.out (rk_below wd (.cells #[.int .i64 n] 3)))); replace HB := Hd (HB.out.trans ((rk_below wd (.cells #[.int .i64 n] 3)).mono HB.out.size)); generalize (wd).heap.size = nb at *; generalize World.alloc wd _ = W1 at *; (refine hK.out _ _ trivial (fun hS => ?_); clear hK K; refine hnm ?_)); refine headH_one 3 ?_; (refine headH_op rfl (fun K hK => ?_); refine step_append_src rfl _ _ 24 rfl w.heap.size 3 jt (.int .i64 0) 1 8 Tryz.underlying24 hjt hj0 hj1 hj2 rfl (by decide) (.slice none 0 0) 0 [] rfl (World.ownsRow_nil _ _ _ _) _ k _ (lC (l.take k)) rfl (by rw [lC_len, List.length_take, HN0.out]; omega) (HT1.out _ HB.out) (lC_one _) (by unfold maxLen; omega) (by omega) HB.out.size ?_; intro v1 W2 hown hgrow; rw [Nat.zero_add, List.nil_append] at hown; have HO1 := Lib.hid hown; have HBx := Hd (show Below w.heap.size w W2 from HB.out.grown hgrow HB.out.size (fun k e => by cases e)); (try replace HN := Hd (HN.out.keep (hgrow.block _ (HN.out.lt) (by simp [Value.ownBlock])))); clear HB hown hgrow; have HB := HBx; clear HBx; (refine hK.out _ _ trivial (fun hS => ?_); clear hK K; refine hnm ?_)); refine headH_one 6 ?_; (refine headH_op rfl (fun K hK => ?_); refine step_append_src rfl _ _ 24 rfl w.heap.size 3 jt (.int .i64 0) 1 8 Tryz.underlying24 hjt hj0 hj1 hj2 rfl (by decide) v1 k _ rfl HO1.out _ 1 _ (lC [n]) rfl rfl (.inr ⟨⟨nb, 0, none⟩, rfl, HN.out.src⟩) (lC_one _) (by unfold maxLen; omega) (by omega) HB.out.size ?_; intro v2 W3 hown hgrow; have HO2 := Lib.hid hown; replace HB := Hd (show Below w.heap.size w W3 from HB.out.grown hgrow HB.out.size (fun k e => (HO1.out.lt k e).1)); clear hown hgrow HO1 HN; (refine hK.out _ _ trivial (fun hS => ?_); clear hK K; refine hnm ?_)); refine headH_one 10 ?_; (refine headH_op rfl (fun K hK => ?_); refine step_append_src rfl _ _ 24 rfl w.heap.size 3 jt (.int .i64 0) 1 8 Tryz.underlying24 hjt hj0 hj1 hj2 rfl (by decide) v2 (k + 1) _ rfl HO2.out _ (N - k) _ (lC (l.drop k)) rfl (by rw [lC_len, List.length_drop, HN0.out, Nat.mul_one]) (if hcap2 : c = k then Or.inl (by omega) else Or.inr ⟨⟨b, k, none⟩, if_neg hcap2, HT3.out _ HB.out⟩) (lC_one _) (by unfold maxLen; omega) (by omega) HB.out.size ?_; intro v3 W4 hown hgrow; have HO3 := Hd (HR3.out _ _ (show Below w.heap.size w W4 from HB.out.grown hgrow HB.out.size (fun k e => (HO2.out.lt k e).1)) hown); clear HB hown hgrow HO2; (refine hK.out _ _ trivial (fun hS => ?_); clear hK K; refine hnm ?_)); (change tailL _ _ _ _ _ _ _ _; refine ⟨by kernel_rfl, ?_⟩; simp only [List.drop_succ_cons, List.drop_zero]; go_wp2; exact HO3.out))))) : P := h
theorem row_take {W : World} {b k : Nat} {l : List Int} (hk : k ≤ l.length) (h : ∀ j, j < l.length → W.cell? ⟨b, j, none⟩ = some (.int .i64 (l.getD j 0))) : ∀ j u, (lC (l.take k))[j]? = some u → W.cell? ((⟨b, 0, none⟩ : Addr).add j) = some u := fun j u hu => by
 have hj : j < k := by have := (List.getElem?_eq_some_iff.1 hu).1; rw [lC_len, List.length_take] at this; omega
 rw [addr_add, Nat.zero_add, h j (by omega), ← hu, lC_get (by rw [List.length_take]; omega)]
 congr 2
 rw [List.getD_eq_getElem?_getD, List.getD_eq_getElem?_getD, List.getElem?_take_of_lt hj]
theorem row_drop {W : World} {b k : Nat} {l : List Int} (h : ∀ j, j < l.length → W.cell? ⟨b, j, none⟩ = some (.int .i64 (l.getD j 0))) : ∀ j u, (lC (l.drop k))[j]? = some u → W.cell? ((⟨b, k, none⟩ : Addr).add j) = some u := fun j u hu => by
 have hj : k + j < l.length := by have := (List.getElem?_eq_some_iff.1 hu).1; rw [lC_len, List.length_drop] at this; omega
 rw [addr_add, h (k + j) hj, ← hu, lC_get (by rw [List.length_drop]; omega)]
 congr 2
 rw [List.getD_eq_getElem?_getD, List.getD_eq_getElem?_getD, List.getElem?_drop]
theorem put_row {l : List Int} {n : Int} {k : Nat} (hk : k ≤ l.length) : lC (l.take k ++ n :: l.drop k) = (lC (l.take k) ++ lC [n]) ++ lC (l.drop k) ∧ (l.take k ++ n :: l.drop k).length = k + 1 + (l.length - k) := by
 constructor
 ·simp [lC]
 ·rw [List.length_append, List.length_cons, List.length_take, List.length_drop]; omega
theorem r6put_any (B : Nat) (l : List Int) (n : Int) (a : Option Addr) (c : Nat) (w : World) (hB : B ≤ w.heap.size) (h0 : 0 < l.length) (hl : l.length ≤ 100) (hown : w.ownsRow B 3 1 (.slice a l.length c) l.length (lC l)) :
  Calls Tryz.prog 195 #[.slice a l.length c, .int .i64 n] w (PutRes B (putS l n) w) := by
 obtain ⟨b, rfl, hbz, _, hcap, hcm, hcell⟩ := own_pos hown h0
 have HAT := Hd (fun k h1 h2 h3 => putS_at l n k h1 h2 h3)
 have HO := Lib.hid hown
 have HC := Lib.hid hcell
 have HB0 := Lib.hid hB
 have HR1 := Hd (fun (e : putS l n = l) => show PutRes B (putS l n) w (.returned (.slice (some ⟨b, 0, none⟩) l.length c)) w from by rw [e]; exact ⟨_, _, rfl, hown, Below.refl _ _⟩)
 have HR2 := Hd (fun (v : Value) (W' : World) (h1 : Below w.heap.size w W') (h2 : W'.ownsRow w.heap.size 3 1 v (putS l n).length (lC (putS l n))) => show PutRes B (putS l n) w (.returned v) W' from by
  obtain ⟨a, c, rfl⟩ := own_len h2
  exact ⟨a, c, rfl, own_base h2 hB, h1⟩)
 obtain ⟨jt, hjt, hj0, hj1, hj2⟩ := info_parts info_int
 obtain ⟨N, hN⟩ : ∃ N, l.length = N := ⟨_, rfl⟩
 have HN0 := Lib.hid hN
 rw [hN] at h0 hl hcap HC HAT HR1 ⊢
 generalize PutRes B (putS l n) w = RES at *
 clear hown hcell hB hN
 go_enter Tryz.func195, Tryz.ntmps195
 go_wp2
 go_loopw [5] (fun s5 wr => ∃ i : Nat, i ≤ N ∧ s5 = .int .i64 (i : Int) ∧ Hid (∀ j, j < i → l.getD j 0 < n) ∧ w = wr) (fun s5 _ => N - (intOf s5).toNat)
 case atStart => exact ⟨0, by omega, rfl, Hd (fun j hj => by omega), rfl⟩
 case round =>
  obtain ⟨k, hk, rfl, HA, rfl⟩ := hrel
  by_cases hlt : k < N
  ·have hlt' : (k : Int) < (N : Int) := by omega
   have hc := HC.out k hlt
   by_cases hv : l.getD k 0 < n
   ·have HA2 := Hd (fun j (hj : j < k + 1) => show l.getD j 0 < n from by (by_cases e : j = k; (subst e; exact hv); exact HA.out j (by omega)))
    generalize l.getD k 0 = x at *
    go_wp2
    go_roundw
    case rel => exact ⟨k + 1, by omega, by go_num, HA2, by trivial⟩
    case measure => simp [intOf]; omega
   ·have HP := Hd (HAT.out k (by omega) HA.out (fun _ => by omega))
    by_cases he : l.getD k 0 = n
    ·have HP2 := Hd (HR1.out (by rw [HP.out, if_pos ⟨hlt, he⟩]))
     rw [he] at hc
     have hv2 : ¬ n < n := by omega
     clear hv
     go_wp2
     exact HP2.out
    ·have HP2 := Hd (show putS l n = l.take k ++ n :: l.drop k from by rw [HP.out, if_neg (fun h => he h.2)])
     have he' : (l.getD k 0 == n) = false := beq_eq_false_iff_ne.2 he
     have HC2 := Hd (HC.out)
     generalize l.getD k 0 = x at *
     go_upto_region 6 with (fail)
     clear hc hv he he'
     (have hkc : k ≤ c := (by omega); have HT1 := Hd (fun (W : World) (hb : Below w.heap.size w W) => show k = 0 ∨ ∃ ad, some (⟨b, 0, none⟩ : Addr) = some ad ∧ ∀ j u, (lC (l.take k))[j]? = some u → W.cell? (ad.add j) = some u from .inr ⟨_, rfl, row_take (by rw [HN0.out]; exact hk) (fun j hj => ((bcell hb).1 _ _ hbz).trans (HC.out j (by rw [HN0.out] at hj; exact hj)))⟩); have HT3 := Hd (fun (W : World) (hb : Below w.heap.size w W) => show ∀ j u, (lC (l.drop k))[j]? = some u → W.cell? ((⟨b, k, none⟩ : Addr).add j) = some u from row_drop (fun j hj => ((bcell hb).1 _ _ hbz).trans (HC.out j (by rw [HN0.out] at hj; exact hj)))); have HR3 := Hd (fun (v : Value) (W' : World) (h1 : Below w.heap.size w W') (h2 : W'.ownsRow w.heap.size 3 1 v (k + 1 + (N - k)) ((lC (l.take k) ++ lC [n]) ++ lC (l.drop k))) => HR2.out v W' h1 (by rw [HP2.out, (put_row (by rw [HN0.out]; exact hk)).1, (put_row (by rw [HN0.out]; exact hk)).2, HN0.out]; exact h2)); refine wp_region_any (by kernel_rfl) ?_; change wpAny _ _ _ _ _ _ _ (World.drew _); have HB := Hd (show Below w.heap.size w w.drew from (Below.refl _ _).drew); clear HA HAT HC HP HP2 HO HR1 HR2 HB0 hcm; refine any_of_tail 11 11 (fun w' => True) (by kernel_rfl) trivial (fun hS => ?_); refine htk_RfB 0 ?_; refine htk_RfB 1 ?_; refine htk_RfB 2 ?_; refine htk_RfB 4 ?_; refine htk_RfB 7 ?_; refine htk_RfB 8 ?_; refine htk_RfB 9 ?_; generalize World.drew w = wd at *; refine headH_all (rs := [3, 5]) (by kernel_rfl) (by simp) (by kernel_rfl) ?_; intro i0 hi0; simp only [List.mem_cons, List.not_mem_nil, or_false] at hi0)
     exact two_RfB
  ·have hlt' : ¬ (k : Int) < (N : Int) := by omega
   have HP := Hd (HAT.out k (by omega) HA.out (fun h => by omega))
   have HP2 := Hd (show putS l n = l.take k ++ n :: l.drop k from by rw [HP.out, if_neg (fun h => by omega)])
   go_upto_region 6 with (fail)
   have HC2 := Hd (HC.out)
   (have hkc : k ≤ c := (by omega); have HT1 := Hd (fun (W : World) (hb : Below w.heap.size w W) => show k = 0 ∨ ∃ ad, some (⟨b, 0, none⟩ : Addr) = some ad ∧ ∀ j u, (lC (l.take k))[j]? = some u → W.cell? (ad.add j) = some u from .inr ⟨_, rfl, row_take (by rw [HN0.out]; exact hk) (fun j hj => ((bcell hb).1 _ _ hbz).trans (HC.out j (by rw [HN0.out] at hj; exact hj)))⟩); have HT3 := Hd (fun (W : World) (hb : Below w.heap.size w W) => show ∀ j u, (lC (l.drop k))[j]? = some u → W.cell? ((⟨b, k, none⟩ : Addr).add j) = some u from row_drop (fun j hj => ((bcell hb).1 _ _ hbz).trans (HC.out j (by rw [HN0.out] at hj; exact hj)))); have HR3 := Hd (fun (v : Value) (W' : World) (h1 : Below w.heap.size w W') (h2 : W'.ownsRow w.heap.size 3 1 v (k + 1 + (N - k)) ((lC (l.take k) ++ lC [n]) ++ lC (l.drop k))) => HR2.out v W' h1 (by rw [HP2.out, (put_row (by rw [HN0.out]; exact hk)).1, (put_row (by rw [HN0.out]; exact hk)).2, HN0.out]; exact h2)); refine wp_region_any (by kernel_rfl) ?_; change wpAny _ _ _ _ _ _ _ (World.drew _); have HB := Hd (show Below w.heap.size w w.drew from (Below.refl _ _).drew); clear HA HAT HC HP HP2 HO HR1 HR2 HB0 hcm; refine any_of_tail 11 11 (fun w' => True) (by kernel_rfl) trivial (fun hS => ?_); refine htk_RfB 0 ?_; refine htk_RfB 1 ?_; refine htk_RfB 2 ?_; refine htk_RfB 4 ?_; refine htk_RfB 7 ?_; refine htk_RfB 8 ?_; refine htk_RfB 9 ?_; generalize World.drew w = wd at *; refine headH_all (rs := [3, 5]) (by kernel_rfl) (by simp) (by kernel_rfl) ?_; intro i0 hi0; simp only [List.mem_cons, List.not_mem_nil, or_false] at hi0)
   exact two_RfB
theorem r6cross_any (B : Nat) (l : List Int) (T b t c S : Int) (a : Option Addr) (cc : Nat) (w : World) (hB : B ≤ w.heap.size) (h0 : 0 < l.length) (hl : l.length ≤ 50) (hown : w.ownsRow B 3 1 (.slice a l.length cc) l.length (lC l))
  (hT : 1 ≤ T ∧ T ≤ 216000) (hb : -100000 ≤ b ∧ b ≤ 100000) (ht : -60 ≤ t ∧ t ≤ 60) (hc : 1 ≤ c ∧ c ≤ 12) (hS : 1 ≤ S ∧ S ≤ 1000) :
  Calls Tryz.prog 166 #[.slice a l.length cc, .int .i64 T, .int .i64 b, .int .i64 t, .int .i64 c, .int .i64 S] w (PutRes B (crX T b t c S l) w) := by
 obtain ⟨m, hm⟩ : ∃ m : Nat, c = (m : Int) := ⟨c.toNat, by omega⟩
 subst hm
 by_cases e : t = 0
 ·have HR := Hd (show PutRes B (crX T b t (m : Int) S l) w (.returned (.slice a l.length cc)) w from by unfold crX; rw [if_pos e]; exact ⟨_, _, rfl, hown, Below.refl _ _⟩)
  subst e
  generalize PutRes B _ w = RES at *
  generalize l.length = n at *
  clear hown
  go_enter Tryz.func166, Tryz.ntmps166
  go_wp2
  go_loopw [0, 13] (fun s0 s13 wr => s0 = .slice a n cc ∧ s13 = .int .i64 0 ∧ w = wr) (fun _ _ _ => 0)
  case atStart => exact ⟨rfl, rfl, rfl⟩
  case round =>
   obtain ⟨rfl, rfl, rfl⟩ := hrel
   have hm0 : (0 : Int) ≤ (m : Int) := by omega
   go_wp2
   exact HR.out
 ·have HR := Hd (fun (a' : Option Addr) (L : List Int) (c' : Nat) (W' : World) (h1 : L = crL (rfK T b t S) (m + 1) l) (h2 : W'.ownsRow B 3 1 (.slice a' L.length c') L.length (lC L)) (h3 : Below w.heap.size w W') => show PutRes B (crX T b t (m : Int) S l) w (.returned (.slice a' L.length c')) W' from by
   unfold crX
   rw [if_neg e]
   simp only [Int.toNat_natCast]
   rw [← h1]
   exact ⟨a', c', rfl, h2, h3⟩)
  generalize PutRes B (crX T b t (m : Int) S l) w = RES at *
  have HP := Hd (fun (L : List Int) (n : Int) (a' : Option Addr) (c' : Nat) (W : World) (h1 : B ≤ W.heap.size) (h2 : 0 < L.length) (h3 : L.length ≤ 100) (h4 : W.ownsRow B 3 1 (.slice a' L.length c') L.length (lC L)) => r6put_any B L n a' c' W h1 h2 h3 h4)
  have HL1 := Hd (fun k => show (crL (rfK T b t S) k l).length ≤ 50 + k from by have := crL_len (rfK T b t S) l k; omega)
  have HL2 := Hd (fun k => Nat.lt_of_lt_of_le h0 (crL_pos (rfK T b t S) l k))
  have hq := tdiv_abs T t 216000 (by omega)
  have HF := Hd (fun (k : Nat) => show rfK T b t S k = ((k : Int) * S - b) * T.tdiv t from rfl)
  have HKS := Hd (fun (k : Nat) (hk : k ≤ m) => rk_mul_abs (x := (k : Int)) (y := S) (K := 12) (M := 1000) (by decide) (by decide) (by omega) (by omega))
  have HO := Lib.hid hown
  have HB0 := Lib.hid hB
  have he : (t == 0) = false := beq_eq_false_iff_ne.2 e
  generalize hqq : T.tdiv t = q at *
  generalize rfK T b t S = f at *
  have HS1 := Hd (fun (k : Nat) (h : 0 < f k) => show crL f (k + 1) l = putS (crL f k l) (f k) from by rw [crL, if_pos h])
  have HS0 := Hd (fun (k : Nat) (h : ¬ 0 < f k) => show crL f (k + 1) l = crL f k l from by rw [crL, if_neg h])
  obtain ⟨L0, hL0⟩ : ∃ L, L = l := ⟨_, rfl⟩
  have HL0 := Hd (show L0 = crL f 0 l from by rw [hL0]; rfl)
  rw [← hL0] at HO h0 hl ⊢
  clear hown hB hL0
  go_enter Tryz.func166, Tryz.ntmps166
  go_wp2
  go_loopw [0, 13] (fun s0 s13 wr => ∃ (k : Nat) (L : List Int) (a' : Option Addr) (c' : Nat), k ≤ m + 1 ∧ s13 = .int .i64 (k : Int) ∧ s0 = .slice a' L.length c' ∧ Hid (L = crL f k l ∧ wr.ownsRow B 3 1 (.slice a' L.length c') L.length (lC L) ∧ Below w.heap.size w wr)) (fun _ s13 _ => m + 1 - (intOf s13).toNat)
  case atStart => exact ⟨0, L0, a, cc, by omega, rfl, rfl, Lib.hid ⟨HL0.out, HO.out, Below.refl _ _⟩⟩
  case round =>
   clear HL0 HO
   obtain ⟨k, L, a', c', hk, rfl, rfl, HH⟩ := hrel
   by_cases hlt : k ≤ m
   ·have hlt' : (k : Int) ≤ (m : Int) := by omega
    have hks := HKS.out k hlt
    have hfk := HF.out k
    have hl1 := HL1.out k
    have hl2 := HL2.out k
    rw [← HH.out.1] at hl1 hl2
    have HPU := Hd (HP.out L (f k) a' c' wr (by have h1 := HB0.out; have h2 := HH.out.2.2.size; omega) hl2 (by omega) HH.out.2.1)
    have HSa := Hd (HS1.out k)
    have HSb := Hd (HS0.out k)
    have hb2 := rk_mul_abs (x := (k : Int) * S - b) (y := q) (K := 112000) (M := 216000) (by decide) (by decide) (by omega) (by omega)
    rw [← hfk] at hb2
    generalize hKS : (k : Int) * S = ks at *
    have hfk' := hfk.symm
    generalize f k = x at *
    clear hfk
    by_cases hx : 0 < x
    ·have HSa2 := Hd (HSa.out hx)
     go_upto_region 6 with (fail)
     go_wp2_with (go_at_call 195; refine HPU.out.mono ?_; rintro e w2 ⟨a2, c2, rfl, ho2, hb2'⟩; have HO2 := Lib.hid ho2; have HB2 := Hd (HH.out.2.2.trans (hb2'.mono HH.out.2.2.size)); clear ho2 hb2')
     have HE2 := Hd (show putS L x = crL f (k + 1) l from by rw [HSa2.out, ← HH.out.1])
     generalize putS L x = L2 at *
     go_roundw
     case rel => exact ⟨k + 1, L2, a2, c2, by omega, by go_num, rfl, Lib.hid ⟨HE2.out, HO2.out, HB2.out⟩⟩
     case measure => simp [intOf]; omega
    ·have HSb2 := Hd (HSb.out (by omega))
     have HE2 := Hd (show L = crL f (k + 1) l from by rw [HSb2.out, ← HH.out.1])
     go_wp2
     go_roundw
     case rel => exact ⟨k + 1, L, a', c', by omega, by go_num, rfl, Lib.hid ⟨HE2.out, HH.out.2⟩⟩
     case measure => simp [intOf]; omega
   ·obtain rfl : k = m + 1 := by omega
    have hlt' : ¬ ((m + 1 : Nat) : Int) ≤ (m : Int) := by omega
    go_wp2
    exact HR.out a' L c' wr HH.out.1 HH.out.2.1 HH.out.2.2
end Go.Proofs.YtgmpelhphnmknaaGreat
