/- Texts put together: ImPrv, ImPrvC. -/
import Derived.Test.YtkdopjkdokgipaaGreatDoorGjA
import Derived.Test.YtkdopjkdokgipaaGreatDoorImNext
namespace Go.Proofs.YtkdopjkdokgipaaGreatDoor
open Go.RowKit
set_option linter.unusedVariables false
set_option linter.unusedSimpArgs false
theorem assertDR (v : Value) (w : World) : (Instr.typeAssert (.iface 133 (.agg #[v])) 126 129 true).run Tryz.prog w = .ok (.tuple #[.agg #[.int .i64 0, .int .i64 0], .bool false]) w := by kernel_rfl
set_option maxRecDepth 100000 in
theorem methodR (k : Nat) (v : Array Value) (w : World) (hk : k = Tryz.prog.types.size + 100) : (Go.method k 133 (.agg v) "overburden/image.node").run Tryz.prog w = .ok (156, .agg v) w := by subst hk; kernel_rfl
set_option maxRecDepth 100000 in
theorem methodD (k : Nat) (v : Array Value) (w : World) (hk : k = Tryz.prog.types.size + 100) : (Go.method k 129 (.agg v) "overburden/image.node").run Tryz.prog w = .ok (155, .agg v) w := by subst hk; kernel_rfl
/-- what the function that calls itself finds in memory -/
structure ProveAt (R : Nat → Prop) (n : Nat) (ss : Nat → SV) (m : Nat) (bs : Nat → BM) (sp base ob sB hB : Nat) (v : Value) (W : World) (L : List NM) : Prop where
  search : SearchAt R n ss m bs sp W
  rsafe : ∀ b, R b → Safe ob v W b
  sbox : W.cell? ⟨sB, 0, none⟩ = some (.pointer (some ⟨sp, 0, none⟩))
  ssafe : Safe ob v W sB
  hbox : W.cell? ⟨hB, 0, none⟩ = some (.func (.func 63) #[] #[.pointer (some ⟨ob, 0, none⟩), .pointer (some ⟨sB, 0, none⟩), .pointer (some ⟨hB, 0, none⟩)])
  hsafe : Safe ob v W hB
  out : OutAt base ob m v W L
theorem ProveAt.step {R : Nat → Prop} {n : Nat} {ss : Nat → SV} {m : Nat} {bs : Nat → BM} {sp base ob sB hB : Nat} {v v' : Value} {W W' : World} {L L' : List NM} (h : ProveAt R n ss m bs sp base ob sB hB v W L) (k : KO ob v W v' W') (o : OutAt base ob m v' W' L') : ProveAt R n ss m bs sp base ob sB hB v' W' L' :=
  ⟨h.search.rests (fun b hb => k.kept (h.rsafe b hb)) k.size, fun b hb => k.safe (h.rsafe b hb), (k.cell h.ssafe).trans h.sbox, k.safe h.ssafe, (k.cell h.hsafe).trans h.hbox, k.safe h.hsafe, o⟩
theorem ProveAt.below {R : Nat → Prop} {n : Nat} {ss : Nat → SV} {m : Nat} {bs : Nat → BM} {sp base ob sB hB : Nat} {v : Value} {W W' : World} {L : List NM} (h : ProveAt R n ss m bs sp base ob sB hB v W L) (hb : Below W.heap.size W W') : ProveAt R n ss m bs sp base ob sB hB v W' L := h.step (KO.of_below hb) (h.out.below hb)
def longP (x : Int) : List PanicEntry := [{ v := .iface 123 (.agg #[.int .i64 x]), recovered := false }]
/-- what it hands back -/
def ProveRes (n m : Nat) (bs : Nat → BM) (base ob k : Nat) (box : Nat → SV) (v : Value) (W : World) (L : List NM) (e : Ending) (W' : World) : Prop :=
  (∃ v' L1, e = .returned (.tuple #[]) ∧ KO ob v W v' W' ∧ OutAt base ob m v' W' (L ++ L1) ∧ L1.map NM.nv = prf n m bs k box L.length ∧ L.length + (prf n m bs k box L.length).length ≤ 4000) ∨
  (∃ x v' L', e = .panicked (longP x) ∧ KO ob v W v' W' ∧ OutAt base ob m v' W' L' ∧ 4000 < L.length + (prf n m bs k box L.length).length)
theorem info_node : (Tryz.prog.info? 76).map (fun i => (i.zero, i.size, i.bytes)) = some (some (.agg #[.int .i64 0, .int .i64 0, .int .i64 0, .slice none 0 0]), 4, 48) := by kernel_rfl
def PArgs (xa : Option Addr) (n xc ob sB hB : Nat) : Array Value := #[.slice xa n xc, .pointer (some ⟨ob, 0, none⟩), .pointer (some ⟨sB, 0, none⟩), .pointer (some ⟨hB, 0, none⟩)]
set_option maxRecDepth 100000 in
set_option maxHeartbeats 1000000 in
theorem prove_long (R : Nat → Prop) (n : Nat) (ss : Nat → SV) (m : Nat) (bs : Nat → BM) (sp base ob sB hB : Nat) (hSh : Shape n ss m bs) (k : Nat) (xa : Option Addr) (xc : Nat) (box : Nat → SV) (v : Value) (W : World) (L : List NM) (hH : Halved n m bs k box) (hL : 4000 ≤ L.length) (h : ProveAt R n ss m bs sp base ob sB hB v W L) :
    Calls Tryz.prog 63 (PArgs xa n xc ob sB hB) W (ProveRes n m bs base ob k box v W L) := by
  obtain ⟨a, c, rfl⟩ := h.out.form
  have c0 := h.out.cell
  have HP := prf_pos hSh hH L.length
  have HR := Lib.hid (fun (W' : World) (hb : Below W.heap.size W W') => show ProveRes n m bs base ob k box (.slice a L.length c) W L (.panicked (longP (L.length : Int))) W' from .inr ⟨_, _, L, rfl, KO.of_below hb, h.out.below hb, by omega⟩)
  unfold longP at HR
  generalize ProveRes n m bs base ob k box (.slice a L.length c) W L = RES at *
  have hge : (4000 : Int) ≤ (L.length : Int) := by omega
  generalize L.length = len at *
  clear h HP hH
  unfold PArgs
  go_enter Tryz.func63, Tryz.ntmps63
  go_wp2
  simp only [bodyPost]
  exact ⟨trivial, HR.out _ (Below.refl _ _)⟩
theorem SpansR.spans {R : Nat → Prop} {w : World} {a : Option Addr} {n : Nat} {ss : Nat → SV} (h : SpansR R w a n ss) (hn : n ≤ maxLen) : Spans w.heap.size w a n ss := by
  rcases h with h | ⟨b, off, ha, _, hz, hc⟩
  · exact ⟨hn, .inl h⟩
  · exact ⟨hn, .inr ⟨b, off, ha, hz, hc⟩⟩
theorem OutAt.push' {base ob m : Nat} {v : Value} {W W' : World} {L : List NM} (h : OutAt base ob m v W L) {len : Nat} {NL : List Value} (hl : L.length = len) (hn : NL = nmC L) (x : NM) (hx : TimesIn base ob m v W x) {g cap : Nat} (ho : W'.ownsRow base 76 4 (.slice (some ⟨g, 0, none⟩) (len + 1) cap) (len + 1) (NL ++ x.cells)) (hg : W.grownBy W' v.ownBlock) (hat : v.ownBlock = some g ∨ g = W.heap.size) :
    W'.heap[ob]? = some (.cells #[v] 64) ∧ KO ob v W (.slice (some ⟨g, 0, none⟩) (len + 1) cap) (W'.setCell ⟨ob, 0, none⟩ (.slice (some ⟨g, 0, none⟩) (len + 1) cap)) ∧ OutAt base ob m (.slice (some ⟨g, 0, none⟩) (len + 1) cap) (W'.setCell ⟨ob, 0, none⟩ (.slice (some ⟨g, 0, none⟩) (len + 1) cap)) (L ++ [x]) := by
  subst hl hn
  exact h.push hx ho hg hat
theorem SpansR.safe {ob : Nat} {v v' : Value} {W W' : World} {a : Option Addr} {n : Nat} {f : Nat → SV} (h : SpansR (Safe ob v W) W a n f) (k : KO ob v W v' W') : SpansR (Safe ob v' W') W' a n f := by
  rcases h with h | ⟨b, off, ha, hB, hz2, hc⟩
  · exact .inl h
  · exact .inr ⟨b, off, ha, k.safe hB, (k.safe hB).1, fun i hi => ⟨(k.cell hB).trans (hc i hi).1, (k.cell hB).trans (hc i hi).2⟩⟩
theorem NextRes.leaf {n m : Nat} {bs : Nat → BM} {box : Nat → SV} {w w' : World} {e : Ending} (h : NextRes n m bs box w e w') {p : Nat × Int} (hp : pick n m bs box (cand m) = some p) : ∃ b, e = .returned (.iface 133 (.agg #[.slice (some ⟨b, 0, none⟩) m m])) ∧ w.heap.size ≤ b ∧ IR 3 w' b m (singleT p.1 p.2) ∧ Below w.heap.size w w' := by
  obtain ⟨h1, h2⟩ := h
  rw [hp] at h2
  obtain ⟨b, h3, h4, h5⟩ := h2
  exact ⟨b, h3, h4, h5, h1⟩
theorem NextRes.cut {n m : Nat} {bs : Nat → BM} {box : Nat → SV} {w w' : World} {e : Ending} (h : NextRes n m bs box w e w') (hp : pick n m bs box (cand m) = none) {c : Nat} (hc : wideAt box n = some c) : e = .returned (.iface 129 (.agg #[.int .i64 (c : Int), .int .i64 (((box c).lo + (box c).hi) / 2)])) ∧ Below w.heap.size w w' := by
  obtain ⟨h1, h2⟩ := h
  rw [hp] at h2
  dsimp only at h2
  rw [hc] at h2
  exact ⟨h2, h1⟩
theorem OutAt.size {base ob m : Nat} {W : World} {L : List NM} {a : Option Addr} {N c : Nat} (h : OutAt base ob m (.slice a N c) W L) : N = L.length := by
  obtain ⟨a', c', e⟩ := h.form
  injection e
theorem OutAt.put' {base ob m : Nat} {W : World} {a b : List NM} {x y : NM} {g c N len : Nat} (h : OutAt base ob m (.slice (some ⟨g, 0, none⟩) N c) W (a ++ x :: b)) (hl : a.length = len) (hy : TimesIn base ob m (.slice (some ⟨g, 0, none⟩) N c) W y) :
    KO ob (.slice (some ⟨g, 0, none⟩) N c) W (.slice (some ⟨g, 0, none⟩) N c) ((((W.setCell ⟨g, len * 4, none⟩ (.int .i64 y.cell)).setCell ⟨g, len * 4 + 1, none⟩ (.int .i64 y.at_)).setCell ⟨g, len * 4 + 2, none⟩ (.int .i64 y.right)).setCell ⟨g, len * 4 + 3, none⟩ (.slice y.ta y.tn y.tc)) ∧
      OutAt base ob m (.slice (some ⟨g, 0, none⟩) N c) ((((W.setCell ⟨g, len * 4, none⟩ (.int .i64 y.cell)).setCell ⟨g, len * 4 + 1, none⟩ (.int .i64 y.at_)).setCell ⟨g, len * 4 + 2, none⟩ (.int .i64 y.right)).setCell ⟨g, len * 4 + 3, none⟩ (.slice y.ta y.tn y.tc)) (a ++ y :: b) := by
  obtain rfl := h.size
  subst hl
  exact h.put hy
theorem OutAt.slot {base ob m : Nat} {W : World} {a b : List NM} {x : NM} {g c N len : Nat} (h : OutAt base ob m (.slice (some ⟨g, 0, none⟩) N c) W (a ++ x :: b)) (hl : a.length = len) :
    W.cell? ⟨g, len * 4, none⟩ = some (.int .i64 x.cell) ∧ W.cell? ⟨g, len * 4 + 1, none⟩ = some (.int .i64 x.at_) ∧ W.cell? ⟨g, len * 4 + 2, none⟩ = some (.int .i64 x.right) ∧ W.cell? ⟨g, len * 4 + 3, none⟩ = some (.slice x.ta x.tn x.tc) ∧ ∀ j, W.frozen? ⟨g, j, none⟩ = false := by
  obtain rfl := h.size
  subst hl
  have key : ∀ r, r < 4 → W.cell? ⟨g, a.length * 4 + r, none⟩ = x.cells[r]? := fun r hr => by
    rw [h.own.cellAt (a.length * 4 + r) (by simp; omega), nmC_get _ _ _ nm0 (by simp) hr]
    simp
  exact ⟨key 0 (by omega), key 1 (by omega), key 2 (by omega), key 3 (by omega), fun j => h.own.frozenAt j⟩
set_option maxRecDepth 100000 in
set_option maxHeartbeats 2000000 in
theorem prove_leaf (R : Nat → Prop) (n : Nat) (ss : Nat → SV) (m : Nat) (bs : Nat → BM) (sp base ob sB hB : Nat) (hSh : Shape n ss m bs) (k : Nat) (xa : Option Addr) (xc : Nat) (box : Nat → SV) (v : Value) (W : World) (L : List NM) (hH : Halved n m bs (k + 1) box) (hb : BoxOk n box) (hL : L.length < 4000) (hX : SpansR (Safe ob v W) W xa n box) (p : Nat × Int) (hp : pick n m bs box (cand m) = some p) (h : ProveAt R n ss m bs sp base ob sB hB v W L) :
    Calls Tryz.prog 63 (PArgs xa n xc ob sB hB) W (ProveRes n m bs base ob (k + 1) box v W L) := by
  obtain ⟨a, c, rfl⟩ := h.out.form
  have hn40 := hSh.n40
  have c0 := h.out.cell
  have f0 := h.out.frozen
  have s0 := h.sbox
  have hobz := h.out.lt
  have hbase : base ≤ W.heap.size := by have := h.out.le; omega
  have HBS := Lib.hid (show ∀ o, base ≤ (W.alloc o).heap.size from fun o => by simp; omega)
  have HOW := Lib.hid h.out.own
  have HOA := Lib.hid h.out
  have HPA := Lib.hid h
  have hpr : prf n m bs (k + 1) box L.length = [⟨-1, 0, 0, listT m (singleT p.1 p.2)⟩] := by rw [prf, hp]
  have hlt : ¬ (4000 : Int) ≤ (L.length : Int) := by omega
  have HR := Lib.hid (fun (v' : Value) (W' : World) (x : NM) (hk : KO ob (.slice a L.length c) W v' W') (ho : OutAt base ob m v' W' (L ++ [x])) (hx : x.nv = ⟨-1, 0, 0, listT m (singleT p.1 p.2)⟩) => show ProveRes n m bs base ob (k + 1) box (.slice a L.length c) W L (.returned (.tuple #[])) W' from .inl ⟨v', [x], rfl, hk, ho, by rw [hpr]; simp [hx], by rw [hpr]; simp; omega⟩)
  generalize ProveRes n m bs base ob (k + 1) box (.slice a L.length c) W L = RES at *
  obtain ⟨i0, hi0, hz0, hz1, hz2⟩ := info_parts info_node
  have hb63 : L.length + 1 ≤ maxLen := by unfold maxLen; omega
  have hb47 : (L.length + 1) * 48 ≤ 140737488355328 := by omega
  have HX := Lib.hid hX
  have HP := Lib.hid hp
  have HB := Lib.hid hb
  have HLL := Lib.hid (show L.length = L.length from rfl)
  generalize hlen : L.length = len at *
  have HLE := Lib.hid hlen
  obtain ⟨NL, hNL⟩ : ∃ NL, NL = nmC L := ⟨_, rfl⟩
  rw [← hNL] at HOW
  have HNL := Lib.hid hNL
  clear h hH hp hb hX hpr hlen hNL
  unfold PArgs
  go_enter Tryz.func63, Tryz.ntmps63
  go_upto_region 3 with (fail)
  go_upto_region 4 with (at_builtin; refine wpList_append_lies _ rfl _ _ 64 rfl base 76 i0 _ 4 48 Tryz.underlying64 hi0 hz0 hz1 hz2 rfl (by decide) (.slice a len c) len NL rfl (HOW.out.alloc _) ⟨W.heap.size, 0, none⟩ 1 1 nm0.cells rfl rfl cells_new nm_one (by decide) hb63 hb47 (HBS.out _) _ rfl ?_; intro g cap w1 hown1 hgrow1 hat1 hlt1; obtain ⟨e1, hk1, ho1⟩ := OutAt.push' (HOA.out.below (alloc_below W (.cells nm0.cells.toArray 76))) HLE.out HNL.out nm0 (.inl ⟨rfl, rfl, rfl⟩) hown1 hgrow1 hat1; have q1 := cell_of_row _ _ 0 _ _ _ e1; have q2 := frozen_of_row _ _ 0 _ _ e1; have HK1 := Lib.hid ((KO.of_below (alloc_below W (.cells nm0.cells.toArray 76))).trans hk1); have HO1 := Lib.hid ho1; have HE1 := Lib.hid e1; clear hown1 hgrow1 hat1 hlt1 hk1 ho1 e1)
  have HPB := Lib.hid (HPA.out.step HK1.out HO1.out)
  have HXB := Lib.hid (HX.out.safe HK1.out)
  have q3 := heap_setCell_same w1 ob 0 _ _ (.slice (some ⟨g, 0, none⟩) (len + 1) cap) (HE1.out)
  generalize World.setCell w1 _ _ = W2 at *
  have s2 := HPB.out.sbox
  have HNX := Lib.hid (next_any R n ss m bs sp hSh xa xc box W2 HPB.out.search (fun b hb => (HPB.out.rsafe b hb).1) (HXB.out.spans (by unfold maxLen; omega)) HB.out (fun e => absurd (HP.out.symm.trans e) (by simp)))
  have hta := assertDR
  have htb := assertR
  clear c0 f0 s0 q1 q2
  go_upto_region 5 with (go_at_call 64; refine HNX.out.mono ?_; rintro e w3 hres; obtain ⟨tb, rfl, htb0, htb1, hb3⟩ := hres.leaf HP.out)
  go_upto_region 15 with (fail)
  have HZ := Lib.hid hb3.size
  have hgw := HO1.out.own.lt g rfl
  have hoW := HO1.out.lt
  have HB4 := Lib.hid (hb3.alloc hb3.size (.cells #[.slice (some ⟨tb, 0, none⟩) m m] 133))
  have htz := htb1.lt
  have HT := Lib.hid (show TimesIn base ob m (.slice (some ⟨g, 0, none⟩) (len + 1) cap) (w3.alloc (.cells #[.slice (some ⟨tb, 0, none⟩) m m] 133)) ⟨-1, 0, 0, some ⟨tb, 0, none⟩, m, m, singleT p.1 p.2⟩ from
    .inr ⟨tb, rfl, rfl, rfl, by have := HK1.out.size; omega, ⟨by simp; omega, by omega, fun e => by simp only [Value.ownBlock, Option.some.injEq] at e; omega⟩, htb1.block ((alloc_below w3 _).block tb htz)⟩)
  have HOV := Lib.hid (HO1.out.below HB4.out)
  have HKV := Lib.hid (HK1.out.trans (KO.of_below HB4.out))
  have HND := Lib.hid (refNode_any (some ⟨tb, 0, none⟩) m m 0)
  clear hres htb0 htb1 hb3 hta htb q3 s2 HNX HB4 HZ
  generalize World.alloc w3 _ = V at *
  refine wp_region_any (by kernel_rfl) ?_
  have HOD := Lib.hid (HOV.out.below (Below.drew (Below.refl V.heap.size V)))
  have HTD := Lib.hid (HT.out.step (KO.of_below (ob := ob) (v := .slice (some ⟨g, 0, none⟩) (len + 1) cap) (Below.drew (Below.refl V.heap.size V))))
  have HKD := Lib.hid (HKV.out.trans (KO.of_below (Below.drew (Below.refl V.heap.size V))))
  clear HT HOV HKV
  change wpAny _ _ _ _ _ _ _ (World.drew V)
  generalize World.drew V = Vd at *
  refine any_of_tail 6 6 (fun w' => w'.cell? ⟨ob, 0, none⟩ = some (.slice (some ⟨g, 0, none⟩) (len + 1) cap)) (by kernel_rfl) HOD.out.cell (fun hS => ?_)
  refine headH_take (i := 0) (v := ?_) rfl (by kernel_rfl) (fun _ _ _ h => h) (Or.inl ⟨by rfl, ?_⟩) (by assumption) ?_; rotate_left; (· intro w' hSw; (try dsimp only at hSw); go_simp; (try with_reducible rfl)); (try dsimp only [Act.put]); (try simp only [List.setIfInBounds_toArray, List.set_cons_zero, List.set_cons_succ])
  refine headH_take (i := 1) (v := ?_) rfl (by kernel_rfl) (fun _ _ _ h => h) (Or.inl ⟨by rfl, ?_⟩) (by assumption) ?_; rotate_left; (· intro w' hSw; (try dsimp only at hSw); go_simp; (try with_reducible rfl)); (try dsimp only [Act.put]); (try simp only [List.setIfInBounds_toArray, List.set_cons_zero, List.set_cons_succ])
  refine headH_take (i := 2) (v := ?_) rfl (by kernel_rfl) (fun _ _ _ h => h) (Or.inl ⟨by rfl, ?_⟩) (by assumption) ?_; rotate_left; (· intro w' hSw; (try dsimp only at hSw); go_simp; (try with_reducible rfl)); (try dsimp only [Act.put]); (try simp only [List.setIfInBounds_toArray, List.set_cons_zero, List.set_cons_succ])
  refine headH_take (i := 3) (v := ?_) rfl (by kernel_rfl) (fun _ _ _ h => h) (Or.inl ⟨by rfl, ?_⟩) (by assumption) ?_; rotate_left; (· intro w' hSw; (try dsimp only at hSw); go_simp; (try with_reducible rfl)); (try dsimp only [Act.put]); (try simp only [List.setIfInBounds_toArray, List.set_cons_zero, List.set_cons_succ])
  refine headH_all (rs := [4]) (by kernel_rfl) (by simp) (by kernel_rfl) ?_; intro j0 hi0; simp only [List.mem_cons, List.not_mem_nil, or_false] at hi0
  subst hi0
  refine headH_op rfl (fun K hK => ?_)
  go_simp
  rw [methodR _ _ _ (by kernel_rfl)]
  go_simp
  go_at_call 156
  refine (HND.out Vd).mono ?_
  rintro e W3 ⟨rfl, hb1⟩
  dsimp only
  have HOE := Lib.hid (HOD.out.below hb1)
  have HTE := Lib.hid (HTD.out.step (KO.of_below hb1))
  have HKE := Lib.hid (HKD.out.trans (KO.of_below hb1))
  refine hK.out _ _ HOE.out.cell (fun hS1 => ?_)
  clear hK K hb1 hS HOD HTD HKD HND
  (try dsimp only [Act.put]); (try simp only [List.setIfInBounds_toArray, List.set_cons_zero, List.set_cons_succ])
  have hll : (len : Int) < (len : Int) + 1 := by omega
  have hln : len < len + 1 := by omega
  refine headH_take (i := 5) (v := ?_) rfl (by kernel_rfl) (fun _ _ _ h => h) (Or.inl ⟨by rfl, ?_⟩) (by assumption) ?_; rotate_left; (· intro w' hSw; (try dsimp only at hSw); go_simp; (try with_reducible rfl)); (try dsimp only [Act.put]); (try simp only [List.setIfInBounds_toArray, List.set_cons_zero, List.set_cons_succ])
  change tailL _ _ _ _ _ _ _ _
  refine ⟨by kernel_rfl, ?_⟩
  simp only [List.drop_succ_cons, List.drop_zero]
  obtain ⟨m0, m1, m2, m3, mf⟩ := HOE.out.slot HLE.out
  have n0 := mf (len * 4)
  have n1 := mf (len * 4 + 1)
  have n2 := mf (len * 4 + 2)
  have n3 := mf (len * 4 + 3)
  clear mf
  obtain ⟨kp, op⟩ := HOE.out.put' HLE.out HTE.out
  have HKP := Lib.hid kp
  have HOP := Lib.hid op
  clear kp op hS1
  go_wp2
  exact bodyPost_ret (results_none rfl _ _ _) rfl (HR.out _ _ _ (HKE.out.trans HKP.out) HOP.out rfl)
end Go.Proofs.YtkdopjkdokgipaaGreatDoor
namespace Go.Proofs.YtkdopjkdokgipaaGreatDoor
open Go.RowKit
set_option linter.unusedVariables false
set_option linter.unusedSimpArgs false
def ProveOk (R : Nat → Prop) (n : Nat) (ss : Nat → SV) (m : Nat) (bs : Nat → BM) (sp base ob sB hB k : Nat) : Prop :=
  ∀ (xa : Option Addr) (xc : Nat) (box : Nat → SV) (v : Value) (W : World) (L : List NM), Halved n m bs k box → BoxOk n box → n ≤ xc → xc ≤ maxLen → L.length ≤ 4000 → SpansR (Safe ob v W) W xa n box → ProveAt R n ss m bs sp base ob sB hB v W L →
    Calls Tryz.prog 63 (PArgs xa n xc ob sB hB) W (ProveRes n m bs base ob k box v W L)
theorem NewSpans.safe {ob : Nat} {v : Value} {w0 W : World} {a : Option Addr} {n : Nat} {f : Nat → SV} (h : NewSpans w0 W a n f) (h1 : ob < w0.heap.size) (h2 : ∀ g, v.ownBlock = some g → g < w0.heap.size) : SpansR (Safe ob v W) W a n f := by
  obtain ⟨b, ha, hb, hz, hc⟩ := h
  exact .inr ⟨b, 0, ha, ⟨hz, by omega, fun e => by have := h2 b e; omega⟩, hz, fun i hi => by rw [Nat.zero_add]; exact hc i hi⟩
theorem ProveRes.split {n m : Nat} {bs : Nat → BM} {base ob k : Nat} {box : Nat → SV} {v : Value} {W W' : World} {L : List NM} {e : Ending} (h : ProveRes n m bs base ob k box v W L e W') {N : Nat} (hN : L.length = N) {P : List NV} (hP : P = prf n m bs k box N) :
    (∃ x v' L', e = .panicked (longP x) ∧ KO ob v W v' W' ∧ OutAt base ob m v' W' L' ∧ 4000 < N + P.length) ∨ (∃ v' L1, e = .returned (.tuple #[]) ∧ KO ob v W v' W' ∧ OutAt base ob m v' W' (L ++ L1) ∧ L1.map NM.nv = P ∧ N + P.length ≤ 4000) := by
  subst hN hP
  exact h.symm
set_option maxRecDepth 100000 in
set_option maxHeartbeats 10000000 in
theorem prove_cut (R : Nat → Prop) (n : Nat) (ss : Nat → SV) (m : Nat) (bs : Nat → BM) (sp base ob sB hB : Nat) (hSh : Shape n ss m bs) (k : Nat) (ih : ProveOk R n ss m bs sp base ob sB hB k) (xa : Option Addr) (xc : Nat) (box : Nat → SV) (v : Value) (W : World) (L : List NM) (hH : Halved n m bs (k + 1) box) (hb : BoxOk n box) (hxc : n ≤ xc) (hxm : xc ≤ maxLen) (hL : L.length < 4000) (hX : SpansR (Safe ob v W) W xa n box) (hp : pick n m bs box (cand m) = none) (h : ProveAt R n ss m bs sp base ob sB hB v W L) :
    Calls Tryz.prog 63 (PArgs xa n xc ob sB hB) W (ProveRes n m bs base ob (k + 1) box v W L) := by
  obtain ⟨a, c, rfl⟩ := h.out.form
  obtain ⟨ci, hci, hcn, hcl⟩ := hH.wide hSh hp
  have hn40 := hSh.n40
  have c0 := h.out.cell
  have f0 := h.out.frozen
  have s0 := h.sbox
  have hobz := h.out.lt
  have hbase : base ≤ W.heap.size := by have := h.out.le; omega
  have HBS := Lib.hid (show ∀ o, base ≤ (W.alloc o).heap.size from fun o => by simp; omega)
  have HOW := Lib.hid h.out.own
  have HOA := Lib.hid h.out
  have HPA := Lib.hid h
  have hlt : ¬ (4000 : Int) ≤ (L.length : Int) := by omega
  obtain ⟨P1, hP1⟩ : ∃ P1, P1 = prf n m bs k (setBox box ci ⟨(box ci).lo, ((box ci).lo + (box ci).hi) / 2⟩) (L.length + 1) := ⟨_, rfl⟩
  obtain ⟨P2, hP2⟩ : ∃ P2, P2 = prf n m bs k (setBox box ci ⟨((box ci).lo + (box ci).hi) / 2 + 1, (box ci).hi⟩) (L.length + 1 + P1.length) := ⟨_, rfl⟩
  have hpr : prf n m bs (k + 1) box L.length = ⟨ci, ((box ci).lo + (box ci).hi) / 2, ((L.length + 1 + P1.length : Nat) : Int), []⟩ :: (P1 ++ P2) := by rw [prf, hp]; dsimp only; rw [hci]; dsimp only; rw [← hP1, ← hP2]
  have hlen2 : (prf n m bs (k + 1) box L.length).length = 1 + P1.length + P2.length := by rw [hpr]; simp; omega
  have HR1 := Lib.hid (fun (x : Int) (v' : Value) (W' : World) (L' : List NM) (hk : KO ob (.slice a L.length c) W v' W') (ho : OutAt base ob m v' W' L') (hx : 4000 < L.length + (1 + P1.length + P2.length)) => show ProveRes n m bs base ob (k + 1) box (.slice a L.length c) W L (.panicked (longP x)) W' from .inr ⟨x, v', L', rfl, hk, ho, by rw [hlen2]; exact hx⟩)
  have HR2 := Lib.hid (fun (v' : Value) (W' : World) (x : NM) (L1 : List NM) (hk : KO ob (.slice a L.length c) W v' W') (ho : OutAt base ob m v' W' (L ++ x :: L1)) (hx : x.nv = ⟨ci, ((box ci).lo + (box ci).hi) / 2, ((L.length + 1 + P1.length : Nat) : Int), []⟩) (hm : L1.map NM.nv = P1 ++ P2) (hl : L.length + (1 + P1.length + P2.length) ≤ 4000) => show ProveRes n m bs base ob (k + 1) box (.slice a L.length c) W L (.returned (.tuple #[])) W' from .inl ⟨v', x :: L1, rfl, hk, ho, by rw [hpr]; simp [hx, hm], by rw [hlen2]; exact hl⟩)
  generalize ProveRes n m bs base ob (k + 1) box (.slice a L.length c) W L = RES at *
  obtain ⟨i0, hi0, hz0, hz1, hz2⟩ := info_parts info_node
  have hb63 : L.length + 1 ≤ maxLen := by unfold maxLen; omega
  have hb47 : (L.length + 1) * 48 ≤ 140737488355328 := by omega
  have HX := Lib.hid hX
  have HP := Lib.hid hp
  have HB := Lib.hid hb
  have HC := Lib.hid hci
  have HCL := Lib.hid hcl
  have HBC := Lib.hid (hb ci hcn)
  have HH1 := Lib.hid (hH.left hcn hcl)
  have HH2 := Lib.hid (hH.right hcn hcl)
  have HXC := Lib.hid (And.intro hxc hxm)
  have hP1' := Lib.hid hP1
  have hP2' := Lib.hid hP2
  clear hP1 hP2 hpr hlen2 hxc hxm hcl hci
  generalize hlen : L.length = len at *
  have HLE := Lib.hid hlen
  obtain ⟨NL, hNL⟩ : ∃ NL, NL = nmC L := ⟨_, rfl⟩
  rw [← hNL] at HOW
  have HNL := Lib.hid hNL
  clear h hH hp hb hX hlen hNL
  have hat : 0 ≤ ((box ci).lo + (box ci).hi) / 2 ∧ ((box ci).lo + (box ci).hi) / 2 ≤ 1000 := by have := HBC.out; omega
  obtain ⟨mid, hmid⟩ : ∃ y, y = ((box ci).lo + (box ci).hi) / 2 := ⟨_, rfl⟩
  have HMI := Lib.hid hmid
  have HMB := Lib.hid (show (box ci).lo ≤ mid ∧ mid < (box ci).hi by rw [hmid]; exact mid_lt HCL.out)
  rw [← hmid] at HR2 HH1 HH2 hP1' hP2' hat
  unfold PArgs
  go_enter Tryz.func63, Tryz.ntmps63
  go_upto_region 3 with (fail)
  go_upto_region 4 with (at_builtin; refine wpList_append_lies _ rfl _ _ 64 rfl base 76 i0 _ 4 48 Tryz.underlying64 hi0 hz0 hz1 hz2 rfl (by decide) (.slice a len c) len NL rfl (HOW.out.alloc _) ⟨W.heap.size, 0, none⟩ 1 1 nm0.cells rfl rfl cells_new nm_one (by decide) hb63 hb47 (HBS.out _) _ rfl ?_; intro g cap w1 hown1 hgrow1 hat1 hlt1; obtain ⟨e1, hk1, ho1⟩ := OutAt.push' (HOA.out.below (alloc_below W (.cells nm0.cells.toArray 76))) HLE.out HNL.out nm0 (.inl ⟨rfl, rfl, rfl⟩) hown1 hgrow1 hat1; have q1 := cell_of_row _ _ 0 _ _ _ e1; have q2 := frozen_of_row _ _ 0 _ _ e1; have HK1 := Lib.hid ((KO.of_below (alloc_below W (.cells nm0.cells.toArray 76))).trans hk1); have HO1 := Lib.hid ho1; have HE1 := Lib.hid e1; clear hown1 hgrow1 hat1 hlt1 hk1 ho1 e1)
  have HPB := Lib.hid (HPA.out.step HK1.out HO1.out)
  have HXB := Lib.hid (HX.out.safe HK1.out)
  generalize World.setCell w1 _ _ = W2 at *
  have s2 := HPB.out.sbox
  have HNX := Lib.hid (next_any R n ss m bs sp hSh xa xc box W2 HPB.out.search (fun b hb => (HPB.out.rsafe b hb).1) (HXB.out.spans (by unfold maxLen; omega)) HB.out (fun _ => ⟨ci, HC.out⟩))
  have hta := assertD
  clear c0 f0 s0 q1 q2
  go_upto_region 5 with (go_at_call 64; refine HNX.out.mono ?_; rintro e w3 hres; obtain ⟨rfl, hb3⟩ := hres.cut HP.out HC.out)
  rw [← hmid] at hres ⊢
  clear hmid
  go_upto_region 9 with (fail)
  have HB4 := Lib.hid (hb3.alloc hb3.size (.cells #[.int .i64 (ci : Int), .int .i64 mid] 129))
  have e0 : (w3.alloc (.cells #[.int .i64 (ci : Int), .int .i64 mid] 129)).cell? ⟨w3.heap.size, 0, none⟩ = some (.int .i64 (ci : Int)) := cell_of_row _ _ _ _ _ _ (heap_alloc_new w3 _)
  have e1 : (w3.alloc (.cells #[.int .i64 (ci : Int), .int .i64 mid] 129)).cell? ⟨w3.heap.size, 1, none⟩ = some (.int .i64 mid) := cell_of_row _ _ _ _ _ _ (heap_alloc_new w3 _)
  have HPR := Lib.hid (parts_any xa n xc box ci mid hcn hn40 HXC.out.1 HXC.out.2 hat (w3.alloc (.cells #[.int .i64 (ci : Int), .int .i64 mid] 129)) (((HXB.out.spans (by unfold maxLen; omega)).below HB4.out).up HB4.out.size))
  have hgw := HO1.out.own.lt g rfl
  have hoW := HO1.out.lt
  have hvz := HB4.out.size
  clear hres hb3 HNX hta s2
  generalize World.alloc w3 _ = V at *
  go_upto_region 10 with (go_at_call 65; refine HPR.out.mono ?_; rintro e w4 ⟨a1, y1, a2, y2, rfl, hs1, hs2, hc1, hm1, hc2, hm2, hb4⟩; have HQ1 := Lib.hid (And.intro hs1 (And.intro hs2 (And.intro hc1 (And.intro hm1 (And.intro hc2 (And.intro hm2 hb4)))))); clear hs1 hs2 hc1 hm1 hc2 hm2 hb4)
  obtain ⟨hs1, hs2, hc1, hm1, hc2, hm2, hb4⟩ := HQ1.out
  clear HQ1
  have HB5 := Lib.hid ((HB4.out.trans (hb4.mono hvz)).alloc (by have := hb4.size; omega) (.cells #[.slice a1 n y1, .slice a2 n y2] 130))
  have p0 : (w4.alloc (.cells #[.slice a1 n y1, .slice a2 n y2] 130)).cell? ⟨w4.heap.size, 0, none⟩ = some (.slice a1 n y1) := cell_of_row _ _ _ _ _ _ (heap_alloc_new w4 _)
  have p1 : (w4.alloc (.cells #[.slice a1 n y1, .slice a2 n y2] 130)).cell? ⟨w4.heap.size, 1, none⟩ = some (.slice a2 n y2) := cell_of_row _ _ _ _ _ _ (heap_alloc_new w4 _)
  have hog : ∀ g', (Value.slice (some ⟨g, 0, none⟩) (len + 1) cap).ownBlock = some g' → g' < V.heap.size := fun g' e => by simp only [Value.ownBlock, Option.some.injEq] at e; omega
  have HS1 := Lib.hid (NewSpans.safe (ob := ob) (v := .slice (some ⟨g, 0, none⟩) (len + 1) cap) (hs1.step (alloc_below w4 (.cells #[.slice a1 n y1, .slice a2 n y2] 130))) (by omega) hog)
  have HS2 := Lib.hid (NewSpans.safe (ob := ob) (v := .slice (some ⟨g, 0, none⟩) (len + 1) cap) (hs2.step (alloc_below w4 (.cells #[.slice a1 n y1, .slice a2 n y2] 130))) (by omega) hog)
  have HPZ := Lib.hid (show Safe ob (.slice (some ⟨g, 0, none⟩) (len + 1) cap) (w4.alloc (.cells #[.slice a1 n y1, .slice a2 n y2] 130)) w4.heap.size from ⟨by simp, by have := hb4.size; omega, fun e => by have := hog _ e; have := hb4.size; omega⟩)
  have HY2 := Lib.hid (And.intro hc2 hm2)
  have HPC := Lib.hid (HPB.out.below HB5.out)
  have HKC := Lib.hid (HK1.out.trans (KO.of_below HB5.out))
  clear hs1 hs2 hb4 HPR e0 e1 HB4 HB5 hog
  generalize World.alloc w4 _ = W4 at *
  generalize w4.heap.size = pb at *
  have hh4 := HPC.out.hbox
  have hl1 : (L ++ [nm0]).length = len + 1 := by simp [HLE.out]
  have hi1 := ih a1 y1 _ _ W4 (L ++ [nm0]) HH1.out (HB.out.left HMB.out.1 HMB.out.2 hcn) hc1 hm1 (by omega) HS1.out HPC.out
  unfold PArgs at hi1
  have HI1 := Lib.hid hi1
  have HL1 := Lib.hid hl1
  clear hi1 hc1 hm1 hc2 hm2 hl1
  go_upto_region 11 with (go_at_call 63; refine HI1.out.mono ?_; intro e W5 hr5; rcases ProveRes.split hr5 HL1.out hP1'.out with ⟨x5, v5, L5, rfl, hk5, ho5, hl5⟩ | ⟨v5, L1, rfl, hk5, ho5, hm5, hl5⟩; (· (unfold longP at *; go_wp2; simp only [bodyPost]; exact ⟨trivial, HR1.out x5 v5 _ _ (HKC.out.trans hk5) ho5 (by omega)⟩)))
  obtain ⟨a5, c5, hv5⟩ := ho5.form
  have hN5 : ((L ++ [nm0]) ++ L1).length = len + 1 + P1.length := by rw [List.length_append, HL1.out, ← hm5, List.length_map]
  rw [hN5] at hv5
  subst hv5
  have HM5 := Lib.hid hm5
  obtain ⟨N5, hn5⟩ : ∃ N5, N5 = len + 1 + P1.length := ⟨_, rfl⟩
  rw [← hn5] at hN5 hk5 ho5 hl5 hP2' HR2
  have HN5 := Lib.hid hn5
  have HLN := Lib.hid hN5
  have HP5 := Lib.hid (HPC.out.step hk5 ho5)
  have HK5 := Lib.hid (HKC.out.trans hk5)
  have q5 := ho5.cell
  have hh5 := HP5.out.hbox
  have p5 := (hk5.cell HPZ.out).trans p1
  have HS5 := Lib.hid (HS2.out.safe hk5)
  have hi2 := ih a2 y2 _ _ W5 _ HH2.out (HB.out.right HMB.out.1 HMB.out.2 hcn) HY2.out.1 HY2.out.2 (by omega) HS5.out HP5.out
  unfold PArgs at hi2
  have HI2 := Lib.hid hi2
  clear hi2 hm5 hn5 hN5 hk5 ho5 p0 p1 hh4 HI1
  go_upto_region 15 with (go_at_call 63; refine HI2.out.mono ?_; intro e W6 hr6; rcases ProveRes.split hr6 HLN.out hP2'.out with ⟨x6, v6, L6, rfl, hk6, ho6, hl6⟩ | ⟨v6, L2, rfl, hk6, ho6, hm6, hl6⟩; (· (unfold longP at *; go_wp2; simp only [bodyPost]; exact ⟨trivial, HR1.out x6 v6 _ _ (HK5.out.trans hk6) ho6 (by have := HN5.out; omega)⟩)))
  rw [show ((L ++ [nm0]) ++ L1) ++ L2 = L ++ nm0 :: (L1 ++ L2) by simp] at ho6
  obtain ⟨g6, c6, hv6, _, hg6z⟩ := ho6.own.form (by simp only [List.length_append, List.length_cons]; omega)
  have hn6 : len < (L ++ nm0 :: (L1 ++ L2)).length := by have := HLE.out; simp only [List.length_append, List.length_cons]; omega
  generalize (L ++ nm0 :: (L1 ++ L2)).length = N6 at hv6 hn6
  subst hv6
  have HOV := Lib.hid ho6
  have HKV := Lib.hid (HK5.out.trans hk6)
  have HMM := Lib.hid (show (L1 ++ L2).map NM.nv = P1 ++ P2 by rw [List.map_append, HM5.out, hm6])
  have HLL := Lib.hid (show len + (1 + P1.length + P2.length) ≤ 4000 by have := HN5.out; omega)
  have HND := Lib.hid (divNode_any (ci : Int) mid (N5 : Int))
  clear ho6 hk6 hm6 hl6 hr6 q5 hh5 p5 HI2 hl5 hr5
  refine wp_region_any (by kernel_rfl) ?_
  have HOD := Lib.hid (HOV.out.below (Below.drew (Below.refl W6.heap.size W6)))
  have HKD := Lib.hid (HKV.out.trans (KO.of_below (Below.drew (Below.refl W6.heap.size W6))))
  clear HOV HKV
  change wpAny _ _ _ _ _ _ _ (World.drew W6)
  generalize World.drew W6 = Vd at *
  refine any_of_tail 6 6 (fun w' => w'.cell? ⟨ob, 0, none⟩ = some (.slice (some ⟨g6, 0, none⟩) N6 c6)) (by kernel_rfl) HOD.out.cell (fun hS => ?_)
  refine headH_take (i := 0) (v := ?_) rfl (by kernel_rfl) (fun _ _ _ h => h) (Or.inl ⟨by rfl, ?_⟩) (by assumption) ?_; rotate_left; (· intro w' hSw; (try dsimp only at hSw); go_simp; (try with_reducible rfl)); (try dsimp only [Act.put]); (try simp only [List.setIfInBounds_toArray, List.set_cons_zero, List.set_cons_succ])
  refine headH_take (i := 1) (v := ?_) rfl (by kernel_rfl) (fun _ _ _ h => h) (Or.inl ⟨by rfl, ?_⟩) (by assumption) ?_; rotate_left; (· intro w' hSw; (try dsimp only at hSw); go_simp; (try with_reducible rfl)); (try dsimp only [Act.put]); (try simp only [List.setIfInBounds_toArray, List.set_cons_zero, List.set_cons_succ])
  refine headH_take (i := 2) (v := ?_) rfl (by kernel_rfl) (fun _ _ _ h => h) (Or.inl ⟨by rfl, ?_⟩) (by assumption) ?_; rotate_left; (· intro w' hSw; (try dsimp only at hSw); go_simp; (try with_reducible rfl)); (try dsimp only [Act.put]); (try simp only [List.setIfInBounds_toArray, List.set_cons_zero, List.set_cons_succ])
  refine headH_take (i := 3) (v := ?_) rfl (by kernel_rfl) (fun _ _ _ h => h) (Or.inl ⟨by rfl, ?_⟩) (by assumption) ?_; rotate_left; (· intro w' hSw; (try dsimp only at hSw); go_simp; (try with_reducible rfl)); (try dsimp only [Act.put]); (try simp only [List.setIfInBounds_toArray, List.set_cons_zero, List.set_cons_succ])
  refine headH_all (rs := [4]) (by kernel_rfl) (by simp) (by kernel_rfl) ?_; intro j0 hi0; simp only [List.mem_cons, List.not_mem_nil, or_false] at hi0
  subst hi0
  refine headH_op rfl (fun K hK => ?_)
  go_simp
  rw [methodD _ _ _ (by kernel_rfl)]
  go_simp
  go_at_call 155
  refine (HND.out Vd).mono ?_
  rintro e W7 ⟨rfl, hb1⟩
  dsimp only
  have HOE := Lib.hid (HOD.out.below hb1)
  have HKE := Lib.hid (HKD.out.trans (KO.of_below hb1))
  refine hK.out _ _ HOE.out.cell (fun hS1 => ?_)
  clear hK K hb1 hS HOD HKD HND
  (try dsimp only [Act.put]); (try simp only [List.setIfInBounds_toArray, List.set_cons_zero, List.set_cons_succ])
  have hll : (len : Int) < (N6 : Int) := by omega
  refine headH_take (i := 5) (v := ?_) rfl (by kernel_rfl) (fun _ _ _ h => h) (Or.inl ⟨by rfl, ?_⟩) (by assumption) ?_; rotate_left; (· intro w' hSw; (try dsimp only at hSw); go_simp; (try with_reducible rfl)); (try dsimp only [Act.put]); (try simp only [List.setIfInBounds_toArray, List.set_cons_zero, List.set_cons_succ])
  change tailL _ _ _ _ _ _ _ _
  refine ⟨by kernel_rfl, ?_⟩
  simp only [List.drop_succ_cons, List.drop_zero]
  obtain ⟨m0, m1, m2, m3, mf⟩ := HOE.out.slot HLE.out
  have n0 := mf (len * 4)
  have n1 := mf (len * 4 + 1)
  have n2 := mf (len * 4 + 2)
  have n3 := mf (len * 4 + 3)
  clear mf
  obtain ⟨kp, op⟩ := HOE.out.put' (y := ⟨ci, mid, N5, none, 0, 0, fun _ => 0⟩) HLE.out (.inl ⟨rfl, rfl, rfl⟩)
  have HKP := Lib.hid kp
  have HOP := Lib.hid op
  clear kp op hS1
  go_wp2
  exact bodyPost_ret (results_none rfl _ _ _) rfl (HR2.out _ _ _ _ (HKE.out.trans HKP.out) HOP.out rfl HMM.out HLL.out)
theorem prove_all (R : Nat → Prop) (n : Nat) (ss : Nat → SV) (m : Nat) (bs : Nat → BM) (sp base ob sB hB : Nat) (hSh : Shape n ss m bs) : ∀ k, ProveOk R n ss m bs sp base ob sB hB k
  | 0 => fun xa xc box v W L hH _ _ _ _ _ _ => by
    have h1 := size_pos hH.le
    have h2 := hH.fuel
    omega
  | k + 1 => fun xa xc box v W L hH hb hxc hxm hL hX h => by
    by_cases hl : 4000 ≤ L.length
    · exact prove_long R n ss m bs sp base ob sB hB hSh (k + 1) xa xc box v W L hH hl h
    · cases hp : pick n m bs box (cand m) with
      | some p => exact prove_leaf R n ss m bs sp base ob sB hB hSh k xa xc box v W L hH hb (by omega) hX p hp h
      | none => exact prove_cut R n ss m bs sp base ob sB hB hSh k (prove_all R n ss m bs sp base ob sB hB hSh k) xa xc box v W L hH hb hxc hxm (by omega) hX hp h
end Go.Proofs.YtkdopjkdokgipaaGreatDoor
