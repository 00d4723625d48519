/- Texts put together: ImFld, ImLoop. -/
import Derived.Test.YtkdopjkdokgipaaGreatDoorImNode
namespace Go.Proofs.YtkdopjkdokgipaaGreatDoor
open Go.RowKit Go.Shelf
set_option linter.unusedVariables false
set_option linter.unusedSimpArgs false
theorem fields_any (sp : Nat) (w : World) :
    Calls Tryz.prog 53 #[.pointer (some ⟨sp, 0, none⟩)] w fun e w' => e = .returned (.func (.func 88) #[] #[.pointer (some ⟨w.heap.size, 0, none⟩)]) ∧ w.alloc (.cells #[.pointer (some ⟨sp, 0, none⟩)] 103) = w' := by
  go_enter Tryz.func53, Tryz.ntmps53
  go_wp2
  go_ret
  exact ⟨rfl, rfl⟩
theorem alloc_kept {W V : World} {o : Obj} (hb : Below (W.alloc o).heap.size (W.alloc o) V) : V.heap[W.heap.size]? = some o := (hb.block _ (by simp)).trans (heap_alloc_new W o)
theorem alloc_below (V : World) (o : Obj) : Below V.heap.size V (V.alloc o) := (Below.refl _ _).alloc (Nat.le_refl _) _
theorem four_allocs (W : World) (o1 o2 o3 o4 : Obj) : Below W.heap.size W ((((W.alloc o1).alloc o2).alloc o3).alloc o4) ∧ ((((W.alloc o1).alloc o2).alloc o3).alloc o4).heap.size = W.heap.size + 1 + 1 + 1 + 1 ∧ ((((W.alloc o1).alloc o2).alloc o3).alloc o4).heap[W.heap.size]? = some o1 ∧ ((((W.alloc o1).alloc o2).alloc o3).alloc o4).heap[W.heap.size + 1]? = some o2 ∧ ((((W.alloc o1).alloc o2).alloc o3).alloc o4).heap[W.heap.size + 1 + 1]? = some o3 ∧ ((((W.alloc o1).alloc o2).alloc o3).alloc o4).heap[W.heap.size + 1 + 1 + 1]? = some o4 := by
  have a1 := alloc_below W o1
  have a2 := alloc_below (W.alloc o1) o2
  have a3 := alloc_below ((W.alloc o1).alloc o2) o3
  have a4 := alloc_below (((W.alloc o1).alloc o2).alloc o3) o4
  have z1 : (W.alloc o1).heap.size = W.heap.size + 1 := by simp
  have z2 : ((W.alloc o1).alloc o2).heap.size = W.heap.size + 1 + 1 := by simp
  have z3 : (((W.alloc o1).alloc o2).alloc o3).heap.size = W.heap.size + 1 + 1 + 1 := by simp
  have b3 := a3.trans (a4.mono a3.size)
  have b2 := a2.trans (b3.mono a2.size)
  refine ⟨a1.trans (b2.mono a1.size), by simp, alloc_kept b2, ?_, ?_, ?_⟩
  · have := alloc_kept (W := W.alloc o1) b3; rwa [z1] at this
  · have := alloc_kept (W := (W.alloc o1).alloc o2) a4; rwa [z2] at this
  · have := heap_alloc_new (((W.alloc o1).alloc o2).alloc o3) o4; rwa [z3] at this
theorem sums_nil {bs : Nat → BM} {i : Nat} : sumsOf bs [] i = 0 := rfl
/-- the iterator's variables, laid -/
theorem env_start {R : Nat → Prop} {n : Nat} {ss : Nat → SV} {m : Nat} {bs : Nat → BM} {sp l sB : Nat} {w W V : World} (hS : SearchAt R n ss m bs sp w) (hR : ∀ b, R b → b < w.heap.size) (hsB : R sB) (hs : w.cell? ⟨sB, 0, none⟩ = some (.pointer (some ⟨sp, 0, none⟩))) (hW : Below w.heap.size w W) (hV : Below W.heap.size W V)
    (h1 : V.cell? ⟨W.heap.size, 0, none⟩ = some (.func (.yield l) #[] #[])) (h2 : V.cell? ⟨W.heap.size + 2, 0, none⟩ = some (.slice (some ⟨W.heap.size + 1, 0, none⟩) n n))
    (h3 : V.cell? ⟨W.heap.size + 3, 0, none⟩ = some (.func (.func 89) #[] #[.pointer (some ⟨sB, 0, none⟩), .pointer (some ⟨W.heap.size, 0, none⟩), .pointer (some ⟨W.heap.size + 2, 0, none⟩), .pointer (some ⟨W.heap.size + 3, 0, none⟩)]))
    {g : Nat → Int} (h4 : IR 3 V (W.heap.size + 1) n g) (hz : W.heap.size + 3 < V.heap.size) :
    EnvF R n ss m bs sp l ⟨sB, W.heap.size, W.heap.size + 2, W.heap.size + 1, W.heap.size + 3⟩ [] (ownAlso (fun _ => False) W V) V := by
  have hb := hW.trans (hV.mono hW.size)
  have hr : Rests R w V := Rests.below hb hR
  have hzz := hb.size
  have hwz := hW.size
  have own : ∀ b, W.heap.size ≤ b → b < V.heap.size → ownAlso (fun _ => False) W V b := fun b h1 h2 => .inr ⟨h1, h2⟩
  exact ⟨hS.rests hr hzz, hsB, (hr.cell hsB).trans hs, own _ (by dsimp only; omega) (by dsimp only; omega), h1, own _ (by dsimp only; omega) (by dsimp only; omega), h2, own _ (by dsimp only; omega) (by dsimp only; omega), h3, own _ (by dsimp only; omega) (by dsimp only; omega), ⟨g, h4, fun c hc => by simp at hc⟩, ⟨by dsimp only; omega, by dsimp only; omega, by dsimp only; omega⟩,
    fun b hb => hb.elim (fun h => h.elim) (fun h => h.2), fun b h => by have := hR b h; omega, fun b h1 h2 => h1.elim (fun h => h.elim) (fun h => by have := hR b h2; have := h.1; omega)⟩
set_option maxRecDepth 100000 in
set_option maxHeartbeats 2000000 in
theorem fields_seq (R : Nat → Prop) (n : Nat) (ss : Nat → SV) (m : Nat) (bs : Nat → BM) (sp sB : Nat) (hSh : Shape n ss m bs) (w : World) (hS : SearchAt R n ss m bs sp w) (hR : ∀ b, R b → b < w.heap.size) (hsB : R sB) (hs : w.cell? ⟨sB, 0, none⟩ = some (.pointer (some ⟨sp, 0, none⟩))) :
    SeqOwn Tryz.prog 88 #[.pointer (some ⟨sB, 0, none⟩)] (encFX n m) R (Shown n ss m bs) (Nxt n ss m bs) (fun xs => xs.map FX.f = allF n ss m bs) (fun pre => ∃ k, pre.map FX.f = (allF n ss m bs).take k) w := by
  intro l J Jx W hW hJ hJx hY h0 N
  refine callsIn_wide.2 ?_
  have hn := hSh.n40
  have hm := hSh.m20
  have hr : Rests R w W := Rests.below hW hR
  have hSW := hS.rests hr hW.size
  obtain ⟨ca, cc, ba, bc, wa, wc, ra, rc, g0, g1, _⟩ := hSW.img
  have hsW := (hr.cell hsB).trans hs
  have hsz : sB < W.heap.size := by have := hR _ hsB; have := hW.size; omega
  have hspz := hSW.lt
  have hmk1 := make_ints n (by omega)
  have hmk2 := make_ints m (by omega)
  have HM := Lib.hid (fun V (hV : Below W.heap.size W V) h1 h2 h3 g h4 hz => env_start (l := l) (V := V) hS hR hsB hs hW hV h1 h2 h3 (g := g) h4 hz)
  have HJ0 := Lib.hid (fun V (hV : Below W.heap.size W V) => hJ _ _ _ _ _ h0 (Turn.of_below hV))
  have HMO := Lib.hid (fun q => more_all R n ss m bs sp l q hSh J Jx hJ hY n)
  clear hY h0 hSW hS hs hW
  go_enter Tryz.func88, Tryz.ntmps88
  go_upto_region 4 with (fail)
  obtain ⟨hVb, hVz, e1, e2, e3, e4⟩ := four_allocs W (.cells #[.func (.yield l) #[] #[]] 72) (.cells (madeCells #[.int .i64 0] n) 3) (.cells #[.slice (some ⟨W.heap.size + 1, 0, none⟩) n n] 24) (.cells #[.func (.func 89) #[] #[.pointer (some ⟨sB, 0, none⟩), .pointer (some ⟨W.heap.size, 0, none⟩), .pointer (some ⟨W.heap.size + 1 + 1, 0, none⟩), .pointer (some ⟨W.heap.size + 1 + 1 + 1, 0, none⟩)]] 166)
  generalize World.alloc (World.alloc (World.alloc (World.alloc W _) _) _) _ = V at *
  have HIR := Lib.hid (show IR 3 V (W.heap.size + 1) n (fun _ => 0) from ⟨_, e2, by have e : (madeCells #[Value.int .i64 0] n).toList = List.replicate n (.int .i64 0) := toList_madeCells_one _ _; have := congrArg List.length e; simpa using this, fun j hj => by
    have e : (madeCells #[Value.int .i64 0] n).toList = List.replicate n (.int .i64 0) := toList_madeCells_one _ _
    rw [← Array.getElem?_toList, e]; simp [hj]⟩)
  have HE := Lib.hid (fun V' (hV' : Below V.heap.size V V') => HM.out V' (hVb.trans (hV'.mono hVb.size)) (((bcell hV').1 _ _ (by omega)).trans (cell_of_row _ _ _ _ _ _ e1)) (((bcell hV').1 _ _ (by omega)).trans (cell_of_row _ _ _ _ _ _ e3)) (((bcell hV').1 _ _ (by omega)).trans (cell_of_row _ _ _ _ _ _ e4)) _ (HIR.out.step hV') (by have := hV'.size; omega))
  have HJV := Lib.hid (fun V' (hV' : Below V.heap.size V V') => HJ0.out V' (hVb.trans (hV'.mono hVb.size)))
  have d0 : V.cell? ⟨W.heap.size + 1 + 1 + 1, 0, none⟩ = some (.func (.func 89) #[] #[.pointer (some ⟨sB, 0, none⟩), .pointer (some ⟨W.heap.size, 0, none⟩), .pointer (some ⟨W.heap.size + 1 + 1, 0, none⟩), .pointer (some ⟨W.heap.size + 1 + 1 + 1, 0, none⟩)]) := cell_of_row _ _ _ _ _ _ e4
  have d1 := ((bcell hVb).1 _ _ hsz).trans hsW
  have d2 := ((bcell hVb).1 _ _ hspz).trans g1
  have hb1 : W.heap.size + 1 + 1 + 1 < V.heap.size := by omega
  have hb2 : sB < V.heap.size := by omega
  have hb3 : sp < V.heap.size := by omega
  clear HM HJ0 e1 e2 e3 e4 hsW g0 g1 hVz hr HIR
  refine wp_region_any (by kernel_rfl) ?_
  change wpAny _ _ _ _ _ _ _ (World.drew V)
  have d0 : V.drew.cell? ⟨W.heap.size + 1 + 1 + 1, 0, none⟩ = _ := d0
  have d1 : V.drew.cell? ⟨sB, 0, none⟩ = _ := d1
  have d2 : V.drew.cell? ⟨sp, 1, none⟩ = _ := d2
  have HBD := Lib.hid (show Below V.heap.size V V.drew from (Below.refl _ _).drew)
  generalize World.drew V = Vd at *
  refine any_of_tail 8 8 (fun w' => w'.cell? ⟨W.heap.size + 1 + 1 + 1, 0, none⟩ = some (.func (.func 89) #[] #[.pointer (some ⟨sB, 0, none⟩), .pointer (some ⟨W.heap.size, 0, none⟩), .pointer (some ⟨W.heap.size + 1 + 1, 0, none⟩), .pointer (some ⟨W.heap.size + 1 + 1 + 1, 0, none⟩)]) ∧ w'.cell? ⟨sB, 0, none⟩ = some (.pointer (some ⟨sp, 0, none⟩)) ∧ w'.cell? ⟨sp, 1, none⟩ = some (.slice ba m bc)) (by kernel_rfl) ⟨d0, d1, d2⟩ (fun hS => ?_)
  refine headH_take (i := 0) (v := ?_) rfl (by kernel_rfl) (fun _ _ _ h => h) (Or.inl ⟨by rfl, ?_⟩) (by assumption) ?_; rotate_left; (· intro w' hSw; (try dsimp only at hSw); (try obtain ⟨hSw1, hSw2, hSw3⟩ := hSw); go_simp; (try with_reducible rfl)); (try dsimp only [Act.put]); (try simp only [List.setIfInBounds_toArray, List.set_cons_zero, List.set_cons_succ])
  refine headH_take (i := 1) (v := ?_) rfl (by kernel_rfl) (fun _ _ _ h => h) (Or.inl ⟨by rfl, ?_⟩) (by assumption) ?_; rotate_left; (· intro w' hSw; (try dsimp only at hSw); (try obtain ⟨hSw1, hSw2, hSw3⟩ := hSw); go_simp; (try with_reducible rfl)); (try dsimp only [Act.put]); (try simp only [List.setIfInBounds_toArray, List.set_cons_zero, List.set_cons_succ])
  refine headH_take (i := 2) (v := ?_) rfl (by kernel_rfl) (fun _ _ _ h => h) (Or.inl ⟨by rfl, ?_⟩) (by assumption) ?_; rotate_left; (· intro w' hSw; (try dsimp only at hSw); (try obtain ⟨hSw1, hSw2, hSw3⟩ := hSw); go_simp; (try with_reducible rfl)); (try dsimp only [Act.put]); (try simp only [List.setIfInBounds_toArray, List.set_cons_zero, List.set_cons_succ])
  refine headH_take (i := 3) (v := ?_) rfl (by kernel_rfl) (fun _ _ _ h => h) (Or.inl ⟨by rfl, ?_⟩) (by assumption) ?_; rotate_left; (· intro w' hSw; (try dsimp only at hSw); (try obtain ⟨hSw1, hSw2, hSw3⟩ := hSw); go_simp; (try with_reducible rfl)); (try dsimp only [Act.put]); (try simp only [List.setIfInBounds_toArray, List.set_cons_zero, List.set_cons_succ])
  refine headH_take (i := 4) (v := ?_) rfl (by kernel_rfl) (fun _ _ _ h => h) (Or.inl ⟨by rfl, ?_⟩) (by assumption) ?_; rotate_left; (· intro w' hSw; (try dsimp only at hSw); (try obtain ⟨hSw1, hSw2, hSw3⟩ := hSw); go_simp; (try with_reducible rfl)); (try dsimp only [Act.put]); (try simp only [List.setIfInBounds_toArray, List.set_cons_zero, List.set_cons_succ])
  refine headH_take (i := 5) (v := ?_) rfl (by kernel_rfl) (fun _ _ _ h => h) (Or.inl ⟨by rfl, ?_⟩) (by assumption) ?_; rotate_left; (· intro w' hSw; (try dsimp only at hSw); (try obtain ⟨hSw1, hSw2, hSw3⟩ := hSw); go_simp; (try with_reducible rfl)); (try dsimp only [Act.put]); (try simp only [List.setIfInBounds_toArray, List.set_cons_zero, List.set_cons_succ])
  refine headH_take (i := 6) (v := ?_) rfl (by kernel_rfl) (fun _ _ _ h => h) (Or.inl ⟨by rfl, ?_⟩) (by assumption) ?_; rotate_left; (· intro w' hSw; (try dsimp only at hSw); (try obtain ⟨hSw1, hSw2, hSw3⟩ := hSw); go_simp; (try with_reducible rfl)); (try dsimp only [Act.put]); (try simp only [List.setIfInBounds_toArray, List.set_cons_zero, List.set_cons_succ])
  refine headH_all (rs := [7]) (by kernel_rfl) (by simp) (by kernel_rfl) ?_; intro i0 hi0; simp only [List.mem_cons, List.not_mem_nil, or_false] at hi0
  subst hi0
  refine headH_op rfl (fun K hK => ?_)
  go_simp
  have HB2 := Lib.hid (HBD.out.trans ((alloc_below Vd (.cells (madeCells #[.int .i64 0] m) 3)).mono HBD.out.size))
  have HRW := Lib.hid (IR.made Vd 3 m)
  have hVd := HBD.out.size
  have hbd1 : W.heap.size + 1 < Vd.heap.size := by omega
  clear HBD hmk1 hmk2 hS
  generalize World.alloc Vd _ = V2 at *
  generalize Vd.heap.size = nb at *
  refine hK.out _ _ ⟨((bcell HB2.out).1 _ _ hb1).trans (by assumption), ((bcell HB2.out).1 _ _ hb2).trans (by assumption), ((bcell HB2.out).1 _ _ hb3).trans (by assumption)⟩ (fun hS2 => ?_)
  clear hK K
  (try dsimp only [Act.put]); (try simp only [List.setIfInBounds_toArray, List.set_cons_zero, List.set_cons_succ])
  change tailL _ _ _ _ _ _ _ _
  refine ⟨by kernel_rfl, ?_⟩
  simp only [List.drop_succ_cons, List.drop_zero]
  have HCL := Lib.hid (show Calls Tryz.prog 89 #[.int .i64 0, .slice (some ⟨nb, 0, none⟩) m m, .pointer (some ⟨sB, 0, none⟩), .pointer (some ⟨W.heap.size, 0, none⟩), .pointer (some ⟨W.heap.size + 1 + 1, 0, none⟩), .pointer (some ⟨W.heap.size + 1 + 1 + 1, 0, none⟩)] V2 (MoreRes R n ss m bs (W.heap.size + 1) J Jx n [] [] (ownAlso (fun _ => False) W V2) V2) from
    callsIn_wide.1 (HMO.out ⟨sB, W.heap.size, W.heap.size + 1 + 1, W.heap.size + 1, W.heap.size + 1 + 1 + 1⟩ 0 [] (some ⟨nb, 0, none⟩) [] _ V2 (by simp) (fun c hc => by simp at hc) (HE.out V2 HB2.out) (.inr ⟨nb, 0, rfl, ⟨.inr ⟨by omega, HRW.out.lt⟩, by dsimp only; omega⟩, HRW.out.lt, fun i hi => by rw [Nat.zero_add]; exact HRW.out.cell hi⟩) (HJV.out V2 HB2.out) (fun x hx => by cases hx)))
  have HRS := Lib.hid (fun e W' (h : MoreRes R n ss m bs (W.heap.size + 1) J Jx n [] [] (ownAlso (fun _ => False) W V2) V2 e W') => show ∃ b, e = .returned (.bool b) ∧ ((∃ xs O, xs.map FX.f = allF n ss m bs ∧ J xs O W') ∨ (∃ pre O, (∃ k, pre.map FX.f = (allF n ss m bs).take k) ∧ Jx pre O W')) from by
    rcases h with ⟨he, ys, O', h1, h2, _⟩ | ⟨he, ys, O', h1, h2⟩
    · exact ⟨true, he, .inl ⟨ys, O', by rw [h1, vis_all hSh], h2⟩⟩
    · exact ⟨false, he, .inr ⟨ys, O', by rw [← vis_all hSh]; exact h1, h2⟩⟩)
  generalize MoreRes R n ss m bs (W.heap.size + 1) J Jx n [] [] (ownAlso (fun _ => False) W V2) V2 = RES at *
  clear HE HJV HMO HB2 HRW hS2
  go_wp2_with (go_at_call 89; with_reducible refine HCL.out.mono ?_; intro e W3 hres; obtain ⟨bb, rfl, hfin⟩ := HRS.out _ _ hres)
  go_end0
  exact ⟨⟨_, rfl⟩, hfin⟩
end Go.Proofs.YtkdopjkdokgipaaGreatDoor
namespace Go.Proofs.YtkdopjkdokgipaaGreatDoor
open Go.RowKit Go.Shelf
set_option linter.unusedVariables false
set_option linter.unusedSimpArgs false
/-- blocks of the caller's: neither the iterator's nor what it reads -/
structure Mine (R X O : Nat → Prop) (W : World) : Prop where
  off : ∀ b, X b → ¬ O b
  rest : ∀ b, X b → ¬ R b
  cells : ∀ b, X b → ∃ o, W.heap[b]? = some o ∧ o.isCells = true
theorem Mine.lt {R X O : Nat → Prop} {W : World} (h : Mine R X O W) {b : Nat} (hb : X b) : b < W.heap.size := by
  obtain ⟨o, h1, _⟩ := h.cells b hb
  exact (Array.getElem?_eq_some_iff.1 h1).1
/-- what a round does: it turns the caller's blocks and lays new ones -/
structure BodyStep (X : Nat → Prop) (W W' : World) (X' : Nat → Prop) : Prop where
  os : W'.os = W.os
  tape : W'.tape = W.tape
  output : W'.output = W.output
  size : W.heap.size ≤ W'.heap.size
  block : ∀ b, b < W.heap.size → ¬ X b → W'.heap[b]? = W.heap[b]?
  new : ∀ b, X' b → X b ∨ W.heap.size ≤ b
  cells : ∀ b, X' b → ∃ o, W'.heap[b]? = some o ∧ o.isCells = true
theorem BodyStep.refl {R X O : Nat → Prop} {W : World} (h : Mine R X O W) : BodyStep X W W X := ⟨rfl, rfl, rfl, Nat.le_refl _, fun _ _ _ => rfl, fun _ h => .inl h, h.cells⟩
theorem BodyStep.below {R X O : Nat → Prop} {W W' : World} (h : Mine R X O W) (hb : Below W.heap.size W W') : BodyStep X W W' X := ⟨hb.os, hb.tape, hb.output, hb.size, fun b hl _ => hb.block b hl, fun _ h => .inl h, fun b hx => by
  obtain ⟨o, h1, h2⟩ := h.cells b hx
  exact ⟨o, (hb.block b (h.lt hx)).trans h1, h2⟩⟩
theorem BodyStep.trans {X X' X'' : Nat → Prop} {A B C : World} (h : BodyStep X A B X') (k : BodyStep X' B C X'') : BodyStep X A C X'' :=
  ⟨k.os.trans h.os, k.tape.trans h.tape, k.output.trans h.output, Nat.le_trans h.size k.size, fun b hl hx => (k.block b (Nat.lt_of_lt_of_le hl h.size) (fun h1 => (h.new b h1).elim hx (fun h2 => by omega))).trans (h.block b hl hx), fun b hb => (k.new b hb).elim (h.new b) (fun h1 => .inr (Nat.le_trans h.size h1)), k.cells⟩
theorem BodyStep.setCell {X X' : Nat → Prop} {A B : World} (h : BodyStep X A B X') {b o : Nat} (hb : X b) (v : Value) : BodyStep X A (B.setCell ⟨b, o, none⟩ v) X' :=
  ⟨h.os, h.tape, h.output, by have := h.size; simpa [World.setCell] using this, fun k hl hk => (Below.heap_setCell B ⟨b, o, none⟩ v k (fun e => hk (by rw [show k = b from e]; exact hb))).trans (h.block k hl hk), h.new, fun k hk => by
    obtain ⟨u, h1, h2⟩ := h.cells k hk
    by_cases e : k = b
    · subst e
      cases u with
      | cells cur t f => exact ⟨.cells (cur.setIfInBounds o v) t f, by simp [World.setCell, Array.getElem?_modify, h1], rfl⟩
      | _ => simp [Obj.isCells] at h2
    · exact ⟨u, (heap_setCell_other B ⟨b, o, none⟩ k v e).trans h1, h2⟩⟩
theorem BodyStep.add {X X' : Nat → Prop} {A B : World} (h : BodyStep X A B X') {g : Nat} (hg : A.heap.size ≤ g) {o : Obj} (ho : B.heap[g]? = some o) (hc : o.isCells = true) : BodyStep X A B (fun b => X' b ∨ b = g) :=
  ⟨h.os, h.tape, h.output, h.size, h.block, fun b hb => hb.elim (h.new b) (fun e => .inr (by omega)), fun b hb => hb.elim (h.cells b) (fun e => ⟨o, by rw [e]; exact ho, hc⟩)⟩
theorem BodyStep.keepsFrom {R X X' O : Nat → Prop} {W W' : World} {B : Nat} (h : BodyStep X W W' X') (m : Mine R X O W) : KeepsFrom B W W' :=
  ⟨h.size, fun k o _ hk ho => (h.block k (Array.getElem?_eq_some_iff.1 hk).1 (fun hx => by
    obtain ⟨u, h1, h2⟩ := m.cells k hx
    rw [hk] at h1
    injection h1 with h1
    rw [h1, h2] at ho
    cases ho)).trans hk⟩
theorem BodyStep.kept {R X X' O : Nat → Prop} {W W' : World} (h : BodyStep X W W' X') (m : Mine R X O W) (hO : ∀ b, O b → b < W.heap.size) (hR : ∀ b, R b → b < W.heap.size) : Kept (With O R) W W' :=
  ⟨h.size, fun b hb => hb.elim (fun h1 => h.block b (hO b h1) (fun h2 => m.off b h2 h1)) (fun h1 => h.block b (hR b h1) (fun h2 => m.rest b h2 h1))⟩
theorem BodyStep.bel {X X' : Nat → Prop} {W W' w0 : World} (h : BodyStep X W W' X') (hX : ∀ b, X b → w0.heap.size ≤ b) (hb : Below w0.heap.size w0 W) : Below w0.heap.size w0 W' :=
  hb.trans ⟨h.os, h.tape, h.output, h.size, fun b hl => h.block b (Nat.lt_of_lt_of_le hl hb.size) (fun hx => by have := hX b hx; omega)⟩
/-- the loop's invariant: what holds of the caller's blocks -/
def LoopI (R : Nat → Prop) (w0 : World) (N : Nat) (T : (Nat → Prop) → List FX → World → Prop) (xs : List FX) (O : Nat → Prop) (W : World) : Prop :=
  ∃ X, Mine R X O W ∧ T X xs W ∧ Below w0.heap.size w0 W ∧ (∀ b, O b → N ≤ b) ∧ (∀ b, X b → w0.heap.size ≤ b) ∧ N ≤ W.heap.size
theorem LoopI.abide {R : Nat → Prop} {w0 : World} {N : Nat} (hN : w0.heap.size ≤ N) {T : (Nat → Prop) → List FX → World → Prop} (hT : ∀ X xs W W', T X xs W → (∀ b, X b → W'.heap[b]? = W.heap[b]?) → T X xs W') : Abide (LoopI R w0 N T) := by
  rintro xs O W O' W' ⟨X, hm, ht, hb, hO, hX, hz⟩ tn
  have hk : ∀ b, X b → W'.heap[b]? = W.heap[b]? := fun b hx => tn.block b (hm.lt hx) (hm.off b hx)
  refine ⟨X, ⟨fun b hx h1 => ?_, hm.rest, fun b hx => ?_⟩, hT _ _ _ _ ht hk, hb.trans (tn.below hb.size (fun b h1 => Nat.le_trans hN (hO b h1))), fun b h1 => ?_, hX, Nat.le_trans hz tn.size⟩
  · rcases (tn.own b).1 h1 with h2 | h2
    · exact hm.off b hx h2
    · have := hm.lt hx; omega
  · obtain ⟨o, h1, h2⟩ := hm.cells b hx
    exact ⟨o, (hk b hx).trans h1, h2⟩
  · rcases (tn.own b).1 h1 with h2 | h2
    · exact hO b h2
    · omega
theorem LoopI.booked {R : Nat → Prop} {w0 : World} {N B : Nat} (hB : w0.heap.size ≤ B) {T : (Nat → Prop) → List FX → World → Prop} (hT : ∀ X xs W W', T X xs W → (∀ b, X b → W'.heap[b]? = W.heap[b]?) → T X xs W') : Booked B (LoopI R w0 N T) := by
  rintro xs O W l o o' ⟨X, hm, ht, hb, hO, hX, hz⟩ hl ho hc
  have hne : ∀ b, X b → b ≠ l := fun b hx e => by
    obtain ⟨u, h1, h2⟩ := hm.cells b hx
    rw [e, ho] at h1
    injection h1 with h1
    rw [← h1, hc] at h2
    cases h2
  have hk : ∀ b, X b → (W.putObj l o').heap[b]? = W.heap[b]? := fun b hx => World.putObj_heap_other (hne b hx)
  exact ⟨X, ⟨hm.off, hm.rest, fun b hx => by
    obtain ⟨u, h1, h2⟩ := hm.cells b hx
    exact ⟨u, (hk b hx).trans h1, h2⟩⟩, hT _ _ _ _ ht hk, hb.trans ⟨rfl, rfl, rfl, by simp, fun b hbl => World.putObj_heap_other (by omega)⟩, hO, hX, by simpa using hz⟩
/-- how a round's body may be left -/
def roundPost (X : Nat → Prop) (T : (Nat → Prop) → List FX → World → Prop) (Tx : Code → (Nat → Prop) → List FX → World → Prop) (xs : List FX) (W : World) : Exit → Act → World → Prop
  | .normal, _, W' => ∃ X', BodyStep X W W' X' ∧ T X' xs W'
  | .ret, _, W' => ∃ X', BodyStep X W W' X' ∧ Tx .ret X' xs W'
  | .exit id, _, W' => ∃ X', BodyStep X W W' X' ∧ Tx (.exit id) X' xs W'
  | .goto t, _, W' => ∃ X', BodyStep X W W' X' ∧ Tx (.goto t) X' xs W'
  | .panic _, _, _ => False
  | .outgrown, _, _ => False
theorem BodyStep.mine {R X X' O : Nat → Prop} {W W' : World} (h : BodyStep X W W' X') (m : Mine R X O W) (hO : ∀ b, O b → b < W.heap.size) (hR : ∀ b, R b → b < W.heap.size) : Mine R X' O W' :=
  ⟨fun b hx h1 => (h.new b hx).elim (fun h2 => m.off b h2 h1) (fun h2 => by have := hO b h1; omega), fun b hx h1 => (h.new b hx).elim (fun h2 => m.rest b h2 h1) (fun h2 => by have := hR b h1; omega), h.cells⟩
theorem shown_put {n : Nat} {ss : Nat → SV} {m : Nat} {bs : Nat → BM} (x : FX) (O : Nat → Prop) (W : World) (l : Nat) (o' : Obj) (h : Shown n ss m bs x O W) (hl : ¬ O l) : Shown n ss m bs x O (W.putObj l o') := by
  have hk : ∀ b, O b → (W.putObj l o').heap[b]? = W.heap[b]? := fun b hb => World.putObj_heap_other (fun e => hl (by rw [← e]; exact hb))
  refine ⟨h.len, h.ins, ?_, h.sums.rests hk (by simp)⟩
  obtain ⟨b, h1, h2, h3, h4⟩ := h.field
  exact ⟨b, h1, h2, by simpa using h3, fun c hc => (World.cell?_of_block (hk b h2)).trans (h4 c hc)⟩
/-- the fields so far: in order, all of them agree -/
def GoodF (n : Nat) (ss : Nat → SV) (m : Nat) (bs : Nat → BM) (xs : List FX) : Prop := (xs.map FX.f).Pairwise lexLt ∧ ∀ x ∈ xs, x.f ∈ allF n ss m bs
theorem GoodF.nil {n m : Nat} {ss : Nat → SV} {bs : Nat → BM} : GoodF n ss m bs [] := ⟨List.Pairwise.nil, fun x hx => by cases hx⟩
theorem GoodF.next {n m : Nat} {ss : Nat → SV} {bs : Nat → BM} {xs : List FX} {x : FX} (h : GoodF n ss m bs xs) (hx : Nxt n ss m bs xs x) : GoodF n ss m bs (xs ++ [x]) := by
  refine ⟨?_, fun y hy => ?_⟩
  · rw [List.map_append, List.map_singleton, List.pairwise_append]
    refine ⟨h.1, List.pairwise_singleton _ _, fun a ha b hb => ?_⟩
    obtain ⟨y, hy, rfl⟩ := List.mem_map.1 ha
    rw [List.mem_singleton] at hb
    subst hb
    exact hx.1 y hy _ (List.prefix_refl _)
  · rcases List.mem_append.1 hy with h1 | h1
    · exact h.2 y h1
    · rw [List.mem_singleton] at h1; subst h1; exact hx.2
theorem GoodF.many {n m : Nat} {ss : Nat → SV} {bs : Nat → BM} {xs : List FX} (h : GoodF n ss m bs xs) : xs.length ≤ (allF n ss m bs).length := by
  have := sorted_length allF_sorted h.1 (l := allF n ss m bs) (fun f hf => by
    obtain ⟨x, hx, rfl⟩ := List.mem_map.1 hf
    exact h.2 x hx)
  simpa using this
theorem wp_fieldsR {g : Operand} {ps : Array Tmp} {assign body : Code} {Q : Exit → Act → World → Prop} {a : Act} {w : World} (R : Nat → Prop) (n : Nat) (ss : Nat → SV) (m : Nat) (bs : Nat → BM) (sp sB : Nat) (hSh : Shape n ss m bs) (hS : SearchAt R n ss m bs sp w) (hR : ∀ b, R b → b < w.heap.size) (hsB : R sB) (hs : w.cell? ⟨sB, 0, none⟩ = some (.pointer (some ⟨sp, 0, none⟩)))
    (w0 : World) (hw : Below w0.heap.size w0 w) (hg : a.eval g = .func (.func 88) #[] #[.pointer (some ⟨sB, 0, none⟩)]) (hps : ps.size = 2)
    (X0 : Nat → Prop) (hX0 : ∀ b, X0 b → w0.heap.size ≤ b ∧ ¬ R b ∧ ∃ o, w.heap[b]? = some o ∧ o.isCells = true)
    (T : (Nat → Prop) → List FX → World → Prop) (Tx : Code → (Nat → Prop) → List FX → World → Prop) (hT : ∀ X xs W W', T X xs W → (∀ b, X b → W'.heap[b]? = W.heap[b]?) → T X xs W') (hTx : ∀ c X xs W W', Tx c X xs W → (∀ b, X b → W'.heap[b]? = W.heap[b]?) → Tx c X xs W')
    (h0 : T X0 [] w) (a1 : FX → Act)
    (hassign : ∀ (l : Nat) (x : FX) (W : World) (K : Act → World → Prop), K (a1 x) W → assign.wpIn (Fence.wide.inRound l) 4 Tryz.prog (Exit.then K (fun _ _ _ => False)) { tmps := (ps.zip (encFX n m x)).foldl (fun t (p, v) => t.setIfInBounds p v) a.tmps, defers := [] } W)
    (hbody : ∀ (l : Nat) (pre : List FX) (x : FX) (O X : Nat → Prop) (W : World), w.heap.size ≤ W.heap.size → Mine R X O W → T X pre W → Shown n ss m bs x O W → Below w0.heap.size w0 W → Rests R w W → (pre ++ [x]).length ≤ (allF n ss m bs).length → body.wpIn (Fence.wide.inRound l) 4 Tryz.prog (roundPost X T Tx (pre ++ [x]) W) (a1 x) W)
    (hdone : ∀ (D : Nat) (xs : List FX) (X : Nat → Prop) (W : World), w.heap.size ≤ D → D < W.heap.size → ¬ X D → xs.map FX.f = allF n ss m bs → T X xs W → Below w0.heap.size w0 W → Rests R w W → W.heap[D]? = some (.deferred (some [])) → Q .normal { a with defers := { target := .collected D, args := #[] } :: a.defers } W)
    (hstop : ∀ (D : Nat) (c : Code) (pre : List FX) (X : Nat → Prop) (W : World), w.heap.size ≤ D → D < W.heap.size → ¬ X D → (∃ k, pre.map FX.f = (allF n ss m bs).take k) → Tx c X pre W → Below w0.heap.size w0 W → W.heap[D]? = some (.deferred (some [])) → c.wp Tryz.prog Q { a with defers := { target := .collected D, args := #[] } :: a.defers } W) :
    (Code.rangeFunc g ps assign body).wp Tryz.prog Q a w := by
  refine (wpIn_wide (n := 6)).1 ?_
  have hN : w0.heap.size ≤ w.heap.size := hw.size
  -- what the iterator reads stays as it was
  let I : List FX → (Nat → Prop) → World → Prop := fun xs O W => LoopI R w0 w.heap.size T xs O W ∧ ((Rests R w W ∧ w.heap.size ≤ W.heap.size) ∧ GoodF n ss m bs xs)
  let Ix : Code → List FX → (Nat → Prop) → World → Prop := fun c xs O W => LoopI R w0 w.heap.size (Tx c) xs O W
  have hRa : ∀ O W O' W', (∀ b, O b → w.heap.size ≤ b) → (Rests R w W ∧ w.heap.size ≤ W.heap.size) → Turn O W O' W' → Rests R w W' ∧ w.heap.size ≤ W'.heap.size := fun O W O' W' hO h tn =>
    ⟨fun b hb => (tn.block b (by have := hR b hb; omega) (fun h1 => by have := hO b h1; have := hR b hb; omega)).trans (h.1 b hb), Nat.le_trans h.2 tn.size⟩
  refine wpIn_range_own (P := Tryz.prog) (g := g) hg (enters_of Tryz.func88 (by kernel_rfl) rfl) (fields_seq R n ss m bs sp sB hSh w hS hR hsB hs) hR (Below.refl _ _) (fun x => by rw [hps]; rfl)
    shown_put I Ix ?hI (fun c => LoopI.abide hN (hTx c)) ?hIb (fun c => LoopI.booked hw.size (hTx c)) ?h0 (fun x a' O W => a' = a1 x) (fun _ _ _ _ _ _ h _ => h) ?hassign ?hbody ?hdone ?hstop
  case hI =>
    rintro xs O W O' W' ⟨h1, h2, hG⟩ tn
    obtain ⟨X, hm, ht, hb, hO, hX, hz⟩ := id h1
    exact ⟨LoopI.abide hN hT _ _ _ _ _ h1 tn, hRa _ _ _ _ hO h2 tn, hG⟩
  case hIb =>
    rintro xs O W l o o' ⟨h1, h2, hG⟩ hl ho hc
    exact ⟨LoopI.booked hw.size hT _ _ _ _ _ _ h1 hl ho hc, ⟨fun b hb => (World.putObj_heap_other (by have := hR b hb; omega)).trans (h2.1 b hb), by simpa using h2.2⟩, hG⟩
  case h0 =>
    intro W hb
    have hk : ∀ b, X0 b → W.heap[b]? = w.heap[b]? := fun b hx => by
      obtain ⟨_, _, o, h1, _⟩ := hX0 b hx
      exact hb.block b (Array.getElem?_eq_some_iff.1 h1).1
    exact ⟨⟨X0, ⟨fun b _ h => h, fun b hx => (hX0 b hx).2.1, fun b hx => by
      obtain ⟨_, _, o, h1, h2⟩ := hX0 b hx
      exact ⟨o, (hk b hx).trans h1, h2⟩⟩, hT _ _ _ _ h0 hk, hw.trans (hb.mono hw.size), fun b h => h.elim, fun b hx => (hX0 b hx).1, hb.size⟩, ⟨Rests.below hb hR, hb.size⟩, GoodF.nil⟩
  case hassign =>
    rintro l pre x O W K hz hO hI hsh hK
    exact hassign l x W K (hK _ _ (KeepsFrom.refl _ _) (Kept.refl _ _) hI rfl hsh)
  case hbody =>
    rintro l pre x a' O W hl hz hO ⟨⟨X, hm, ht, hb, hOn, hX, hzz⟩, ⟨hr, hww⟩, hG⟩ rfl hsh hnx
    have hG2 := hG.next hnx
    have hOl : ∀ b, O b → b < W.heap.size := fun b h => (hO b h).2
    have hRl : ∀ b, R b → b < W.heap.size := fun b h => by have := hR b h; omega
    have hX' : ∀ W' X', BodyStep X W W' X' → ∀ b, X' b → w0.heap.size ≤ b := fun W' X' st b hx => (st.new b hx).elim (hX b) (fun h => by have := hb.size; omega)
    refine wpIn_mono (hbody l pre x O X W hww hm ht hsh hb hr hG2.many) ?_
    intro e a' W' hp
    cases e with
    | normal =>
      obtain ⟨X', st, h1⟩ := hp
      have mn := st.mine hm hOl hRl
      exact ⟨st.keepsFrom hm, st.kept hm hOl hRl, ⟨X', mn, h1, st.bel hX hb, hOn, hX' _ _ st, Nat.le_trans hzz st.size⟩, ⟨fun b h => (st.block b (hRl b h) (fun hx => hm.rest b hx h)).trans (hr b h), Nat.le_trans hww st.size⟩, hG2⟩
    | ret =>
      obtain ⟨X', st, h1⟩ := hp
      exact ⟨st.keepsFrom hm, X', st.mine hm hOl hRl, h1, st.bel hX hb, hOn, hX' _ _ st, Nat.le_trans hzz st.size⟩
    | exit id =>
      obtain ⟨X', st, h1⟩ := hp
      exact ⟨st.keepsFrom hm, X', st.mine hm hOl hRl, h1, st.bel hX hb, hOn, hX' _ _ st, Nat.le_trans hzz st.size⟩
    | goto t =>
      obtain ⟨X', st, h1⟩ := hp
      exact ⟨st.keepsFrom hm, X', st.mine hm hOl hRl, h1, st.bel hX hb, hOn, hX' _ _ st, Nat.le_trans hzz st.size⟩
    | panic ch => exact hp.elim
    | outgrown => exact hp.elim
  case hdone =>
    rintro D xs O W hD hDO hxs ⟨⟨X, hm, ht, hb, hOn, hX, hzz⟩, ⟨hr, hww⟩, hG⟩ hDD
    have hlt : D < W.heap.size := (Array.getElem?_eq_some_iff.1 hDD).1
    refine hdone D xs X W hD hlt (fun hx => ?_) hxs ht hb hr hDD
    obtain ⟨u, h1, h2⟩ := hm.cells D hx
    rw [hDD] at h1
    injection h1 with h1
    rw [← h1] at h2
    cases h2
  case hstop =>
    rintro D c pre O W hD hDO hxs ⟨X, hm, ht, hb, hOn, hX, hzz⟩ hDD
    refine wpIn_wide.2 ?_
    have hlt : D < W.heap.size := (Array.getElem?_eq_some_iff.1 hDD).1
    refine hstop D c pre X W hD hlt (fun hx => ?_) hxs ht hb hDD
    obtain ⟨u, h1, h2⟩ := hm.cells D hx
    rw [hDD] at h1
    injection h1 with h1
    rw [← h1] at h2
    cases h2
/-- the same, of which less is handed over at the end -/
theorem wp_fields {g : Operand} {ps : Array Tmp} {assign body : Code} {Q : Exit → Act → World → Prop} {a : Act} {w : World} (R : Nat → Prop) (n : Nat) (ss : Nat → SV) (m : Nat) (bs : Nat → BM) (sp sB : Nat) (hSh : Shape n ss m bs) (hS : SearchAt R n ss m bs sp w) (hR : ∀ b, R b → b < w.heap.size) (hsB : R sB) (hs : w.cell? ⟨sB, 0, none⟩ = some (.pointer (some ⟨sp, 0, none⟩)))
    (w0 : World) (hw : Below w0.heap.size w0 w) (hg : a.eval g = .func (.func 88) #[] #[.pointer (some ⟨sB, 0, none⟩)]) (hps : ps.size = 2)
    (X0 : Nat → Prop) (hX0 : ∀ b, X0 b → w0.heap.size ≤ b ∧ ¬ R b ∧ ∃ o, w.heap[b]? = some o ∧ o.isCells = true)
    (T : (Nat → Prop) → List FX → World → Prop) (Tx : Code → (Nat → Prop) → List FX → World → Prop) (hT : ∀ X xs W W', T X xs W → (∀ b, X b → W'.heap[b]? = W.heap[b]?) → T X xs W') (hTx : ∀ c X xs W W', Tx c X xs W → (∀ b, X b → W'.heap[b]? = W.heap[b]?) → Tx c X xs W')
    (h0 : T X0 [] w) (a1 : FX → Act)
    (hassign : ∀ (l : Nat) (x : FX) (W : World) (K : Act → World → Prop), K (a1 x) W → assign.wpIn (Fence.wide.inRound l) 4 Tryz.prog (Exit.then K (fun _ _ _ => False)) { tmps := (ps.zip (encFX n m x)).foldl (fun t (p, v) => t.setIfInBounds p v) a.tmps, defers := [] } W)
    (hbody : ∀ (l : Nat) (pre : List FX) (x : FX) (O X : Nat → Prop) (W : World), w.heap.size ≤ W.heap.size → Mine R X O W → T X pre W → Shown n ss m bs x O W → Below w0.heap.size w0 W → Rests R w W → body.wpIn (Fence.wide.inRound l) 4 Tryz.prog (roundPost X T Tx (pre ++ [x]) W) (a1 x) W)
    (hdone : ∀ (D : Nat) (xs : List FX) (X : Nat → Prop) (W : World), w.heap.size ≤ D → D < W.heap.size → ¬ X D → xs.map FX.f = allF n ss m bs → T X xs W → Below w0.heap.size w0 W → W.heap[D]? = some (.deferred (some [])) → Q .normal { a with defers := { target := .collected D, args := #[] } :: a.defers } W)
    (hstop : ∀ (D : Nat) (c : Code) (pre : List FX) (X : Nat → Prop) (W : World), w.heap.size ≤ D → D < W.heap.size → ¬ X D → (∃ k, pre.map FX.f = (allF n ss m bs).take k) → Tx c X pre W → Below w0.heap.size w0 W → W.heap[D]? = some (.deferred (some [])) → c.wp Tryz.prog Q { a with defers := { target := .collected D, args := #[] } :: a.defers } W) :
    (Code.rangeFunc g ps assign body).wp Tryz.prog Q a w :=
  wp_fieldsR R n ss m bs sp sB hSh hS hR hsB hs w0 hw hg hps X0 hX0 T Tx hT hTx h0 a1 hassign (fun l pre x O X W h1 h2 h3 h4 h5 h6 _ => hbody l pre x O X W h1 h2 h3 h4 h5 h6) (fun D xs X W h1 h2 h3 h4 h5 h6 _ h7 => hdone D xs X W h1 h2 h3 h4 h5 h6 h7) hstop
end Go.Proofs.YtkdopjkdokgipaaGreatDoor
