/- The walk of Refute's function that calls itself: too long; a leaf. -/
import Derived.Test.YtaocbfhokadppaaDoorGjA
import Derived.Test.YtaocbfhokadppaaDoorImNext
namespace Go.Proofs.YtaocbfhokadppaaDoor
open Go.RowKit
set_option linter.unusedVariables false
set_option linter.unusedSimpArgs false
theorem assertDR (v : Value) (w : World) : (Instr.typeAssert (.iface 76 (.agg #[v])) 72 79 true).run Tryd.prog w = .ok (.tuple #[.agg #[.int .i64 0, .int .i64 0], .bool false]) w := by kernel_rfl
set_option maxRecDepth 100000 in
theorem methodR (k : Nat) (v : Array Value) (w : World) (hk : k = Tryd.prog.types.size + 100) : (Go.method k 76 (.agg v) "overburden/image.node").run Tryd.prog w = .ok (112, .agg v) w := by subst hk; kernel_rfl
set_option maxRecDepth 100000 in
theorem methodD (k : Nat) (v : Array Value) (w : World) (hk : k = Tryd.prog.types.size + 100) : (Go.method k 79 (.agg v) "overburden/image.node").run Tryd.prog w = .ok (113, .agg v) w := by subst hk; kernel_rfl
/-- what the function that calls itself finds in memory -/
structure ProveAt (R : Nat → Prop) (n : Nat) (ss : Nat → SV) (m : Nat) (bs : Nat → BM) (sp base ob sB hB : Nat) (v : Value) (W : World) (L : List NM) : Prop where
  search : SearchAt R n ss m bs sp W
  rsafe : ∀ b, R b → Safe ob v W b
  sbox : W.cell? ⟨sB, 0, none⟩ = some (.pointer (some ⟨sp, 0, none⟩))
  ssafe : Safe ob v W sB
  hbox : W.cell? ⟨hB, 0, none⟩ = some (.func (.func 45) #[] #[.pointer (some ⟨ob, 0, none⟩), .pointer (some ⟨sB, 0, none⟩), .pointer (some ⟨hB, 0, none⟩)])
  hsafe : Safe ob v W hB
  out : OutAt base ob m v W L
theorem ProveAt.step {R : Nat → Prop} {n : Nat} {ss : Nat → SV} {m : Nat} {bs : Nat → BM} {sp base ob sB hB : Nat} {v v' : Value} {W W' : World} {L L' : List NM} (h : ProveAt R n ss m bs sp base ob sB hB v W L) (k : KO ob v W v' W') (o : OutAt base ob m v' W' L') : ProveAt R n ss m bs sp base ob sB hB v' W' L' :=
  ⟨h.search.rests (fun b hb => k.kept (h.rsafe b hb)) k.size, fun b hb => k.safe (h.rsafe b hb), (k.cell h.ssafe).trans h.sbox, k.safe h.ssafe, (k.cell h.hsafe).trans h.hbox, k.safe h.hsafe, o⟩
theorem ProveAt.below {R : Nat → Prop} {n : Nat} {ss : Nat → SV} {m : Nat} {bs : Nat → BM} {sp base ob sB hB : Nat} {v : Value} {W W' : World} {L : List NM} (h : ProveAt R n ss m bs sp base ob sB hB v W L) (hb : Below W.heap.size W W') : ProveAt R n ss m bs sp base ob sB hB v W' L := h.step (KO.of_below hb) (h.out.below hb)
def longP (x : Int) : List PanicEntry := [{ v := .iface 89 (.agg #[.int .i64 x]), recovered := false }]
/-- what it hands back -/
def ProveRes (n m : Nat) (bs : Nat → BM) (base ob k : Nat) (box : Nat → SV) (v : Value) (W : World) (L : List NM) (e : Ending) (W' : World) : Prop :=
  (∃ v' L1, e = .returned (.tuple #[]) ∧ KO ob v W v' W' ∧ OutAt base ob m v' W' (L ++ L1) ∧ L1.map NM.nv = prf n m bs k box L.length ∧ L.length + (prf n m bs k box L.length).length ≤ 4000) ∨
  (∃ x v' L', e = .panicked (longP x) ∧ KO ob v W v' W' ∧ OutAt base ob m v' W' L' ∧ 4000 < L.length + (prf n m bs k box L.length).length)
theorem info_node : (Tryd.prog.info? 51).map (fun i => (i.zero, i.size, i.bytes)) = some (some (.agg #[.int .i64 0, .int .i64 0, .int .i64 0, .slice none 0 0]), 4, 48) := by kernel_rfl
def PArgs (xa : Option Addr) (n xc ob sB hB : Nat) : Array Value := #[.slice xa n xc, .pointer (some ⟨ob, 0, none⟩), .pointer (some ⟨sB, 0, none⟩), .pointer (some ⟨hB, 0, none⟩)]
set_option maxRecDepth 100000 in
set_option maxHeartbeats 1000000 in
theorem prove_long (R : Nat → Prop) (n : Nat) (ss : Nat → SV) (m : Nat) (bs : Nat → BM) (sp base ob sB hB : Nat) (hSh : Shape n ss m bs) (k : Nat) (xa : Option Addr) (xc : Nat) (box : Nat → SV) (v : Value) (W : World) (L : List NM) (hH : Halved n m bs k box) (hL : 4000 ≤ L.length) (h : ProveAt R n ss m bs sp base ob sB hB v W L) :
    Calls Tryd.prog 45 (PArgs xa n xc ob sB hB) W (ProveRes n m bs base ob k box v W L) := by
  obtain ⟨a, c, rfl⟩ := h.out.form
  have c0 := h.out.cell
  have HP := prf_pos hSh hH L.length
  have HR := Lib.hid (fun (W' : World) (hb : Below W.heap.size W W') => show ProveRes n m bs base ob k box (.slice a L.length c) W L (.panicked (longP (L.length : Int))) W' from .inr ⟨_, _, L, rfl, KO.of_below hb, h.out.below hb, by omega⟩)
  unfold longP at HR
  generalize ProveRes n m bs base ob k box (.slice a L.length c) W L = RES at *
  have hge : (4000 : Int) ≤ (L.length : Int) := by omega
  generalize L.length = len at *
  clear h HP hH
  unfold PArgs
  go_enter Tryd.func45, Tryd.ntmps45
  go_wp2
  simp only [bodyPost]
  exact ⟨trivial, HR.out _ (Below.refl _ _)⟩
theorem SpansR.spans {R : Nat → Prop} {w : World} {a : Option Addr} {n : Nat} {ss : Nat → SV} (h : SpansR R w a n ss) (hn : n ≤ maxLen) : Spans w.heap.size w a n ss := by
  rcases h with h | ⟨b, off, ha, _, hz, hc⟩
  · exact ⟨hn, .inl h⟩
  · exact ⟨hn, .inr ⟨b, off, ha, hz, hc⟩⟩
theorem OutAt.push' {base ob m : Nat} {v : Value} {W W' : World} {L : List NM} (h : OutAt base ob m v W L) {len : Nat} {NL : List Value} (hl : L.length = len) (hn : NL = nmC L) (x : NM) (hx : TimesIn base ob m v W x) {g cap : Nat} (ho : W'.ownsRow base 51 4 (.slice (some ⟨g, 0, none⟩) (len + 1) cap) (len + 1) (NL ++ x.cells)) (hg : W.grownBy W' v.ownBlock) (hat : v.ownBlock = some g ∨ g = W.heap.size) :
    W'.heap[ob]? = some (.cells #[v] 26) ∧ KO ob v W (.slice (some ⟨g, 0, none⟩) (len + 1) cap) (W'.setCell ⟨ob, 0, none⟩ (.slice (some ⟨g, 0, none⟩) (len + 1) cap)) ∧ OutAt base ob m (.slice (some ⟨g, 0, none⟩) (len + 1) cap) (W'.setCell ⟨ob, 0, none⟩ (.slice (some ⟨g, 0, none⟩) (len + 1) cap)) (L ++ [x]) := by
  subst hl hn
  exact h.push hx ho hg hat
theorem SpansR.safe {ob : Nat} {v v' : Value} {W W' : World} {a : Option Addr} {n : Nat} {f : Nat → SV} (h : SpansR (Safe ob v W) W a n f) (k : KO ob v W v' W') : SpansR (Safe ob v' W') W' a n f := by
  rcases h with h | ⟨b, off, ha, hB, hz2, hc⟩
  · exact .inl h
  · exact .inr ⟨b, off, ha, k.safe hB, (k.safe hB).1, fun i hi => ⟨(k.cell hB).trans (hc i hi).1, (k.cell hB).trans (hc i hi).2⟩⟩
theorem NextRes.leaf {n m : Nat} {bs : Nat → BM} {box : Nat → SV} {w w' : World} {e : Ending} (h : NextRes n m bs box w e w') {p : Nat × Int} (hp : pick n m bs box (cand m) = some p) : ∃ b, e = .returned (.iface 76 (.agg #[.slice (some ⟨b, 0, none⟩) m m])) ∧ w.heap.size ≤ b ∧ IR 3 w' b m (singleT p.1 p.2) ∧ Below w.heap.size w w' := by
  obtain ⟨h1, h2⟩ := h
  rw [hp] at h2
  obtain ⟨b, h3, h4, h5⟩ := h2
  exact ⟨b, h3, h4, h5, h1⟩
theorem NextRes.cut {n m : Nat} {bs : Nat → BM} {box : Nat → SV} {w w' : World} {e : Ending} (h : NextRes n m bs box w e w') (hp : pick n m bs box (cand m) = none) {c : Nat} (hc : wideAt box n = some c) : e = .returned (.iface 79 (.agg #[.int .i64 (c : Int), .int .i64 (((box c).lo + (box c).hi) / 2)])) ∧ Below w.heap.size w w' := by
  obtain ⟨h1, h2⟩ := h
  rw [hp] at h2
  dsimp only at h2
  rw [hc] at h2
  exact ⟨h2, h1⟩
theorem OutAt.size {base ob m : Nat} {W : World} {L : List NM} {a : Option Addr} {N c : Nat} (h : OutAt base ob m (.slice a N c) W L) : N = L.length := by
  obtain ⟨a', c', e⟩ := h.form
  injection e
theorem OutAt.put' {base ob m : Nat} {W : World} {a b : List NM} {x y : NM} {g c N len : Nat} (h : OutAt base ob m (.slice (some ⟨g, 0, none⟩) N c) W (a ++ x :: b)) (hl : a.length = len) (hy : TimesIn base ob m (.slice (some ⟨g, 0, none⟩) N c) W y) :
    KO ob (.slice (some ⟨g, 0, none⟩) N c) W (.slice (some ⟨g, 0, none⟩) N c) ((((W.setCell ⟨g, len * 4, none⟩ (.int .i64 y.cell)).setCell ⟨g, len * 4 + 1, none⟩ (.int .i64 y.at_)).setCell ⟨g, len * 4 + 2, none⟩ (.int .i64 y.right)).setCell ⟨g, len * 4 + 3, none⟩ (.slice y.ta y.tn y.tc)) ∧
      OutAt base ob m (.slice (some ⟨g, 0, none⟩) N c) ((((W.setCell ⟨g, len * 4, none⟩ (.int .i64 y.cell)).setCell ⟨g, len * 4 + 1, none⟩ (.int .i64 y.at_)).setCell ⟨g, len * 4 + 2, none⟩ (.int .i64 y.right)).setCell ⟨g, len * 4 + 3, none⟩ (.slice y.ta y.tn y.tc)) (a ++ y :: b) := by
  obtain rfl := h.size
  subst hl
  exact h.put hy
theorem OutAt.slot {base ob m : Nat} {W : World} {a b : List NM} {x : NM} {g c N len : Nat} (h : OutAt base ob m (.slice (some ⟨g, 0, none⟩) N c) W (a ++ x :: b)) (hl : a.length = len) :
    W.cell? ⟨g, len * 4, none⟩ = some (.int .i64 x.cell) ∧ W.cell? ⟨g, len * 4 + 1, none⟩ = some (.int .i64 x.at_) ∧ W.cell? ⟨g, len * 4 + 2, none⟩ = some (.int .i64 x.right) ∧ W.cell? ⟨g, len * 4 + 3, none⟩ = some (.slice x.ta x.tn x.tc) ∧ ∀ j, W.frozen? ⟨g, j, none⟩ = false := by
  obtain rfl := h.size
  subst hl
  have key : ∀ r, r < 4 → W.cell? ⟨g, a.length * 4 + r, none⟩ = x.cells[r]? := fun r hr => by
    rw [h.own.cellAt (a.length * 4 + r) (by simp; omega), nmC_get _ _ _ nm0 (by simp) hr]
    simp
  exact ⟨key 0 (by omega), key 1 (by omega), key 2 (by omega), key 3 (by omega), fun j => h.own.frozenAt j⟩
set_option maxRecDepth 100000 in
set_option maxHeartbeats 2000000 in
theorem prove_leaf (R : Nat → Prop) (n : Nat) (ss : Nat → SV) (m : Nat) (bs : Nat → BM) (sp base ob sB hB : Nat) (hSh : Shape n ss m bs) (k : Nat) (xa : Option Addr) (xc : Nat) (box : Nat → SV) (v : Value) (W : World) (L : List NM) (hH : Halved n m bs (k + 1) box) (hb : BoxOk n box) (hL : L.length < 4000) (hX : SpansR (Safe ob v W) W xa n box) (p : Nat × Int) (hp : pick n m bs box (cand m) = some p) (h : ProveAt R n ss m bs sp base ob sB hB v W L) :
    Calls Tryd.prog 45 (PArgs xa n xc ob sB hB) W (ProveRes n m bs base ob (k + 1) box v W L) := by
  obtain ⟨a, c, rfl⟩ := h.out.form
  have hn40 := hSh.n40
  have c0 := h.out.cell
  have f0 := h.out.frozen
  have s0 := h.sbox
  have hobz := h.out.lt
  have hbase : base ≤ W.heap.size := by have := h.out.le; omega
  have HBS := Lib.hid (show ∀ o, base ≤ (W.alloc o).heap.size from fun o => by simp; omega)
  have HOW := Lib.hid h.out.own
  have HOA := Lib.hid h.out
  have HPA := Lib.hid h
  have hpr : prf n m bs (k + 1) box L.length = [⟨-1, 0, 0, listT m (singleT p.1 p.2)⟩] := by rw [prf, hp]
  have hlt : ¬ (4000 : Int) ≤ (L.length : Int) := by omega
  have HR := Lib.hid (fun (v' : Value) (W' : World) (x : NM) (hk : KO ob (.slice a L.length c) W v' W') (ho : OutAt base ob m v' W' (L ++ [x])) (hx : x.nv = ⟨-1, 0, 0, listT m (singleT p.1 p.2)⟩) => show ProveRes n m bs base ob (k + 1) box (.slice a L.length c) W L (.returned (.tuple #[])) W' from .inl ⟨v', [x], rfl, hk, ho, by rw [hpr]; simp [hx], by rw [hpr]; simp; omega⟩)
  generalize ProveRes n m bs base ob (k + 1) box (.slice a L.length c) W L = RES at *
  obtain ⟨i0, hi0, hz0, hz1, hz2⟩ := info_parts info_node
  have hb63 : L.length + 1 ≤ maxLen := by unfold maxLen; omega
  have hb47 : (L.length + 1) * 48 ≤ 140737488355328 := by omega
  have HX := Lib.hid hX
  have HP := Lib.hid hp
  have HB := Lib.hid hb
  have HLL := Lib.hid (show L.length = L.length from rfl)
  generalize hlen : L.length = len at *
  have HLE := Lib.hid hlen
  obtain ⟨NL, hNL⟩ : ∃ NL, NL = nmC L := ⟨_, rfl⟩
  rw [← hNL] at HOW
  have HNL := Lib.hid hNL
  clear h hH hp hb hX hpr hlen hNL
  unfold PArgs
  go_enter Tryd.func45, Tryd.ntmps45
  go_upto_region 3 with (fail)
  go_upto_region 4 with (at_builtin; refine wpList_append_lies _ rfl _ _ 26 rfl base 51 i0 _ 4 48 Tryd.underlying26 hi0 hz0 hz1 hz2 rfl (by decide) (.slice a len c) len NL rfl (HOW.out.alloc _) ⟨W.heap.size, 0, none⟩ 1 1 nm0.cells rfl rfl cells_new nm_one (by decide) hb63 hb47 (HBS.out _) _ rfl ?_; intro g cap w1 hown1 hgrow1 hat1 hlt1; obtain ⟨e1, hk1, ho1⟩ := OutAt.push' (HOA.out.below (alloc_below W (.cells nm0.cells.toArray 51))) HLE.out HNL.out nm0 (.inl ⟨rfl, rfl, rfl⟩) hown1 hgrow1 hat1; have q1 := cell_of_row _ _ 0 _ _ _ e1; have q2 := frozen_of_row _ _ 0 _ _ e1; have HK1 := Lib.hid ((KO.of_below (alloc_below W (.cells nm0.cells.toArray 51))).trans hk1); have HO1 := Lib.hid ho1; have HE1 := Lib.hid e1; clear hown1 hgrow1 hat1 hlt1 hk1 ho1 e1)
  have HPB := Lib.hid (HPA.out.step HK1.out HO1.out)
  have HXB := Lib.hid (HX.out.safe HK1.out)
  have q3 := heap_setCell_same w1 ob 0 _ _ (.slice (some ⟨g, 0, none⟩) (len + 1) cap) (HE1.out)
  generalize World.setCell w1 _ _ = W2 at *
  have s2 := HPB.out.sbox
  have HNX := Lib.hid (next_any R n ss m bs sp hSh xa xc box W2 HPB.out.search (fun b hb => (HPB.out.rsafe b hb).1) (HXB.out.spans (by unfold maxLen; omega)) HB.out (fun e => absurd (HP.out.symm.trans e) (by simp)))
  have hta := assertDR
  have htb := assertR
  clear c0 f0 s0 q1 q2
  go_upto_region 5 with (go_at_call 46; refine HNX.out.mono ?_; rintro e w3 hres; obtain ⟨tb, rfl, htb0, htb1, hb3⟩ := hres.leaf HP.out)
  go_upto_region 15 with (fail)
  have HZ := Lib.hid hb3.size
  have hgw := HO1.out.own.lt g rfl
  have hoW := HO1.out.lt
  have HB4 := Lib.hid (hb3.alloc hb3.size (.cells #[.slice (some ⟨tb, 0, none⟩) m m] 76))
  have htz := htb1.lt
  have HT := Lib.hid (show TimesIn base ob m (.slice (some ⟨g, 0, none⟩) (len + 1) cap) (w3.alloc (.cells #[.slice (some ⟨tb, 0, none⟩) m m] 76)) ⟨-1, 0, 0, some ⟨tb, 0, none⟩, m, m, singleT p.1 p.2⟩ from
    .inr ⟨tb, rfl, rfl, rfl, by have := HK1.out.size; omega, ⟨by simp; omega, by omega, fun e => by simp only [Value.ownBlock, Option.some.injEq] at e; omega⟩, htb1.block ((alloc_below w3 _).block tb htz)⟩)
  have HOV := Lib.hid (HO1.out.below HB4.out)
  have HKV := Lib.hid (HK1.out.trans (KO.of_below HB4.out))
  have HND := Lib.hid (refNode_any (some ⟨tb, 0, none⟩) m m 0)
  clear hres htb0 htb1 hb3 hta htb q3 s2 HNX HB4 HZ
  generalize World.alloc w3 _ = V at *
  refine wp_region_any (by kernel_rfl) ?_
  have HOD := Lib.hid (HOV.out.below (Below.drew (Below.refl V.heap.size V)))
  have HTD := Lib.hid (HT.out.step (KO.of_below (ob := ob) (v := .slice (some ⟨g, 0, none⟩) (len + 1) cap) (Below.drew (Below.refl V.heap.size V))))
  have HKD := Lib.hid (HKV.out.trans (KO.of_below (Below.drew (Below.refl V.heap.size V))))
  clear HT HOV HKV
  change wpAny _ _ _ _ _ _ _ (World.drew V)
  generalize World.drew V = Vd at *
  refine any_of_tail 6 6 (fun w' => w'.cell? ⟨ob, 0, none⟩ = some (.slice (some ⟨g, 0, none⟩) (len + 1) cap)) (by kernel_rfl) HOD.out.cell (fun hS => ?_)
  refine headH_take (i := 0) (v := ?_) rfl (by kernel_rfl) (fun _ _ _ h => h) (Or.inl ⟨by rfl, ?_⟩) (by assumption) ?_; rotate_left; (· intro w' hSw; (try dsimp only at hSw); go_simp; (try with_reducible rfl)); (try dsimp only [Act.put]); (try simp only [List.setIfInBounds_toArray, List.set_cons_zero, List.set_cons_succ])
  refine headH_take (i := 1) (v := ?_) rfl (by kernel_rfl) (fun _ _ _ h => h) (Or.inl ⟨by rfl, ?_⟩) (by assumption) ?_; rotate_left; (· intro w' hSw; (try dsimp only at hSw); go_simp; (try with_reducible rfl)); (try dsimp only [Act.put]); (try simp only [List.setIfInBounds_toArray, List.set_cons_zero, List.set_cons_succ])
  refine headH_take (i := 2) (v := ?_) rfl (by kernel_rfl) (fun _ _ _ h => h) (Or.inl ⟨by rfl, ?_⟩) (by assumption) ?_; rotate_left; (· intro w' hSw; (try dsimp only at hSw); go_simp; (try with_reducible rfl)); (try dsimp only [Act.put]); (try simp only [List.setIfInBounds_toArray, List.set_cons_zero, List.set_cons_succ])
  refine headH_take (i := 3) (v := ?_) rfl (by kernel_rfl) (fun _ _ _ h => h) (Or.inl ⟨by rfl, ?_⟩) (by assumption) ?_; rotate_left; (· intro w' hSw; (try dsimp only at hSw); go_simp; (try with_reducible rfl)); (try dsimp only [Act.put]); (try simp only [List.setIfInBounds_toArray, List.set_cons_zero, List.set_cons_succ])
  refine headH_all (rs := [4]) (by kernel_rfl) (by simp) (by kernel_rfl) ?_; intro j0 hi0; simp only [List.mem_cons, List.not_mem_nil, or_false] at hi0
  subst hi0
  refine headH_op rfl (fun K hK => ?_)
  go_simp
  rw [methodR _ _ _ (by kernel_rfl)]
  go_simp
  go_at_call 112
  refine (HND.out Vd).mono ?_
  rintro e W3 ⟨rfl, hb1⟩
  dsimp only
  have HOE := Lib.hid (HOD.out.below hb1)
  have HTE := Lib.hid (HTD.out.step (KO.of_below hb1))
  have HKE := Lib.hid (HKD.out.trans (KO.of_below hb1))
  refine hK.out _ _ HOE.out.cell (fun hS1 => ?_)
  clear hK K hb1 hS HOD HTD HKD HND
  (try dsimp only [Act.put]); (try simp only [List.setIfInBounds_toArray, List.set_cons_zero, List.set_cons_succ])
  have hll : (len : Int) < (len : Int) + 1 := by omega
  have hln : len < len + 1 := by omega
  refine headH_take (i := 5) (v := ?_) rfl (by kernel_rfl) (fun _ _ _ h => h) (Or.inl ⟨by rfl, ?_⟩) (by assumption) ?_; rotate_left; (· intro w' hSw; (try dsimp only at hSw); go_simp; (try with_reducible rfl)); (try dsimp only [Act.put]); (try simp only [List.setIfInBounds_toArray, List.set_cons_zero, List.set_cons_succ])
  change tailL _ _ _ _ _ _ _ _
  refine ⟨by kernel_rfl, ?_⟩
  simp only [List.drop_succ_cons, List.drop_zero]
  obtain ⟨m0, m1, m2, m3, mf⟩ := HOE.out.slot HLE.out
  have n0 := mf (len * 4)
  have n1 := mf (len * 4 + 1)
  have n2 := mf (len * 4 + 2)
  have n3 := mf (len * 4 + 3)
  clear mf
  obtain ⟨kp, op⟩ := HOE.out.put' HLE.out HTE.out
  have HKP := Lib.hid kp
  have HOP := Lib.hid op
  clear kp op hS1
  go_wp2
  exact bodyPost_ret (results_none rfl _ _ _) rfl (HR.out _ _ _ (HKE.out.trans HKP.out) HOP.out rfl)
end Go.Proofs.YtaocbfhokadppaaDoor
