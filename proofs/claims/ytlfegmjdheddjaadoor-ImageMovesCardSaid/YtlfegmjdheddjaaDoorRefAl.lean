/- The walk of the references' all and All. -/
import Derived.Test.YtlfegmjdheddjaaDoorGxdA
import Derived.Test.YtlfegmjdheddjaaDoorRefAg
import Derived.Test.YtlfegmjdheddjaaDoorGcA
import Derived.Test.YtlfegmjdheddjaaDoorGhA
namespace Go.Proofs.YtlfegmjdheddjaaDoor
open Go.RowKit Go.Shelf
set_option linter.unusedVariables false
set_option linter.unusedSimpArgs false
/-- what 'all' hands back -/
def AllRes (base n : Nat) (L new : List (List Int)) (v : Value) (W : World) (e : Ending) (W' : World) : Prop :=
  ∃ v' cs', e = .returned v' ∧ OutF base n v' (L ++ new) cs' W' ∧ W.grownBy W' v.ownBlock ∧ (v'.ownBlock = v.ownBlock ∨ ∃ b, v'.ownBlock = some b ∧ W.heap.size ≤ b)
/-- the call of 'all' with r cells left -/
def AllOk (B base n : Nat) (ss : Nat → SV) (m : Nat) (bs : Nat → BM) (a : Option Addr) (c : Nat) (ba : Option Addr) (bc : Nat) (r : Nat) : Prop :=
  ∀ (pre : List Int) (pa : Option Addr) (pc : Nat) (v : Value) (L : List (List Int)) (cs : List Value) (W : World), pre.length + r = n → (∀ i, i < pre.length → 0 ≤ fOf pre i ∧ fOf pre i ≤ 1000) → Spans B W a n ss → Beams B W ba m bs → B ≤ base → base ≤ W.heap.size →
    IntsX (fun b => b < W.heap.size ∧ v.ownBlock ≠ some b) W pa pre.length (fOf pre) → OutF base n v L cs W → L.length + (enumF n ss (fun f => agreesB m bs (fOf f)) r pre).length ≤ 1000000 →
    Calls Tryd.prog 50 #[imageV a n c ba m bc, .slice pa pre.length pc, v] W (AllRes base n L (enumF n ss (fun f => agreesB m bs (fOf f)) r pre) v W)
set_option maxRecDepth 100000 in
set_option maxHeartbeats 2000000 in
theorem all_leaf (B base n : Nat) (ss : Nat → SV) (m : Nat) (bs : Nat → BM) (a : Option Addr) (c : Nat) (ba : Option Addr) (bc : Nat) (hSh : Shape n ss m bs) : AllOk B base n ss m bs a c ba bc 0 := by
  intro pre pa pc v L cs W hl hden hS hM hB1 hB2 hP hO hmax
  have hn1 := hSh.n1
  have hn40 := hSh.n40
  rw [Nat.add_zero] at hl
  rw [hl] at hden hP ⊢
  obtain ⟨pb, po, rfl, hpX, hpc⟩ : ∃ b off, pa = some ⟨b, off, none⟩ ∧ (b < W.heap.size ∧ v.ownBlock ≠ some b) ∧ ∀ i, i < n → W.cell? ⟨b, off + i, none⟩ = some (.int .i64 (fOf pre i)) := by
    rcases hP with h | h
    · omega
    · exact h
  have hPI : Ints W.heap.size W (some ⟨pb, po, none⟩) n (fOf pre) := .inr ⟨pb, po, rfl, hpX.1, hpc⟩
  have HAG := Lib.hid (fun (W' : World) (hb : Below W.heap.size W W') => r8Agrees_any a n c ba m bc ss bs (some ⟨pb, po, none⟩) pc (fOf pre) W' B (by have := hb.size; omega) (hM.below (hb.mono (by omega))) hSh ((hPI.below hb).up hb.size) hden)
  obtain ⟨i0, hi0, hz00, hz01, hz02⟩ := info_parts info_int
  obtain ⟨i1, hi1, hz10, hz11, hz12⟩ := info_parts info_ints
  have HNEW := Lib.hid (show ∀ W', Below W.heap.size W W' → ∀ j u, (iC (fOf pre) n)[j]? = some u → W'.cell? ((⟨pb, po, none⟩ : Addr).add j) = some u from fun W' hb j u hu => by
    have hj : j < n := by have := (List.getElem?_eq_some_iff.1 hu).1; rwa [iC_len] at this
    rw [addr_add, ← hu, iC_get hj]
    exact ((bcell hb).1 _ _ hpX.1).trans (hpc j hj))
  have HO := Lib.hid hO
  have hvl := own_len hO.own
  have HS := Lib.hid hS
  rw [enumF] at hmax ⊢
  clear hP hPI hS hM hpc hO
  cases hag : agreesB m bs (fOf pre)
  · rw [hag] at HAG
    rw [if_neg (by decide)]
    have HR := Lib.hid (fun (W' : World) (hb : Below W.heap.size W W') => show AllRes base n L [] v W (.returned v) W' from ⟨v, cs, rfl, by rw [List.append_nil]; exact HO.out.step hb, ⟨hb.os, hb.tape, hb.output, hb.size, fun b hl _ => hb.block b hl⟩, .inl rfl⟩)
    generalize AllRes base n L [] v W = RES at *
    obtain ⟨va, vc, rfl⟩ := hvl
    go_enter Tryd.func50, Tryd.ntmps50
    go_upto_region 1 with (fail)
    have HLI := Lib.hid (show LI a n c ba m bc W (W.alloc (.cells #[.slice a n c, .slice ba m bc] 25)) from LI_start)
    generalize World.alloc W _ = V at *
    obtain ⟨l0, l1, l2, l3⟩ := HLI.out
    go_wp2_with (go_at_call 23; refine (HAG.out V l3).mono ?_; rintro e w2 ⟨rfl, hb2⟩)
    exact HR.out _ (l3.trans (hb2.mono l3.size))
  · rw [hag] at HAG
    rw [if_pos rfl]
    rw [hag, if_pos rfl] at hmax
    have HR := Lib.hid (fun (W' : World) (v' : Value) (cs' : List Value) (h1 : OutF base n v' (L ++ [pre]) cs' W') (h2 : W.grownBy W' v.ownBlock) (h3 : v'.ownBlock = v.ownBlock ∨ ∃ b, v'.ownBlock = some b ∧ W.heap.size ≤ b) => show AllRes base n L [pre] v W (.returned v') W' from ⟨v', cs', rfl, h1, h2, h3⟩)
    generalize AllRes base n L [pre] v W = RES at *
    obtain ⟨va, vc, rfl⟩ := hvl
    obtain ⟨l, hl2⟩ : ∃ l, L.length = l := ⟨_, rfl⟩
    have HLL := Lib.hid hl2
    rw [hl2] at hmax HO HR ⊢
    simp only [List.length_cons, List.length_nil] at hmax
    clear hl2
    have hb63 : l + 1 ≤ maxLen := by unfold maxLen; omega
    have hb47 : (l + 1) * 24 ≤ 140737488355328 := by omega
    have hb64 : 0 + n ≤ maxLen := by unfold maxLen; omega
    have hb48 : (0 + n) * 8 ≤ 140737488355328 := by omega
    go_enter Tryd.func50, Tryd.ntmps50
    go_upto_region 1 with (fail)
    have HLI := Lib.hid (show LI a n c ba m bc W (W.alloc (.cells #[.slice a n c, .slice ba m bc] 25)) from LI_start)
    generalize World.alloc W _ = V at *
    obtain ⟨l0, l1, l2, l3⟩ := HLI.out
    go_upto_region 4 with (go_at_call 23; refine (HAG.out V l3).mono ?_; rintro e w2 ⟨rfl, hb2⟩)
    have HB2 := Lib.hid (l3.trans (hb2.mono l3.size))
    clear l0 l1 l2 l3 hb2 HLI
    have hz2 := HB2.out.size
    go_upto_region 5 with (first | (at_builtin; refine wpList_append_lies _ rfl _ _ 38 rfl w2.heap.size 3 i0 (.int .i64 0) 1 8 Tryd.underlying38 hi0 hz00 hz01 hz02 rfl (by decide) (.slice none 0 0) 0 [] rfl (World.ownsRow_nil _ _ _ _) ⟨pb, po, none⟩ n pc (iC (fOf pre) n) rfl (by rw [iC_len, Nat.mul_one]) (HNEW.out w2 HB2.out) iC_one (by omega) hb64 hb48 (Nat.le_refl _) _ rfl ?_; intro gA gc w3 hown3 hgrow3 hat3 hlt3; have HB3 := Lib.hid (show Below W.heap.size W w3 from HB2.out.trans ⟨hgrow3.os, hgrow3.tape, hgrow3.output, hgrow3.size, fun b hb => hgrow3.block b (by omega) (by simp [Value.ownBlock])⟩); rw [Nat.zero_add, List.nil_append] at hown3; have HC3 := Lib.hid hown3; have hgA : w2.heap.size ≤ gA := (by rcases hat3 with h | h; (cases h); omega); have HOW := Lib.hid (HO.out.step (HB3.out.trans ((alloc_below w3 (.cells #[.slice (some ⟨gA, 0, none⟩) n gc] 38)).mono HB3.out.size))); clear hgrow3 hat3 hown3; rw [Nat.zero_add]) | (at_builtin; refine wpList_append_lies _ rfl _ _ 33 rfl base 38 i1 (.slice none 0 0) 1 24 Tryd.underlying33 hi1 hz10 hz11 hz12 rfl (by decide) (.slice va l vc) l cs rfl (by have := HOW.out.own; rwa [HLL.out] at this) ⟨w3.heap.size, 0, none⟩ 1 1 [.slice (some ⟨gA, 0, none⟩) n gc] rfl rfl (World.news_of_block (heap_alloc_new w3 (.cells #[.slice (some ⟨gA, 0, none⟩) n gc] 38))) one_slice (by decide) hb63 hb47 (by have := HB3.out.size; simp; omega) _ rfl ?_; intro g1 p1 w5 hown5 hgrow5 hat5 hlt5))
    have hz3 := HB3.out.size
    obtain ⟨_, e1, _, hgA2⟩ := own_at HC3.out (by omega)
    injection e1 with e1
    injection e1 with e1
    subst e1
    have HP := Lib.hid (HO.out.push hB2 HB3.out (own_base HC3.out hz2) (Nat.le_trans hz2 hgA) hgA2 (by rw [HLL.out]; exact hown5) (show (w3.alloc (.cells #[.slice (some ⟨gA, 0, none⟩) n gc] 38)).grownBy w5 (Value.slice va l vc).ownBlock from hgrow5) (show (Value.slice va l vc).ownBlock = some g1 ∨ g1 = (w3.alloc (.cells #[.slice (some ⟨gA, 0, none⟩) n gc] 38)).heap.size from hat5))
    have hz5 : W.heap.size ≤ (w3.alloc (.cells #[.slice (some ⟨gA, 0, none⟩) n gc] 38)).heap.size := by simp; omega
    have HAT := Lib.hid (show (Value.slice (some ⟨g1, 0, none⟩) (l + 1) p1).ownBlock = (Value.slice va l vc).ownBlock ∨ ∃ b, (Value.slice (some ⟨g1, 0, none⟩) (l + 1) p1).ownBlock = some b ∧ W.heap.size ≤ b from by
      rcases hat5 with h | h
      · exact .inl h.symm
      · exact .inr ⟨g1, rfl, by omega⟩)
    rw [HLL.out] at HP
    clear hown5 hgrow5 hat5 HOW HC3 HB3 HNEW
    go_wp2
    exact HR.out _ _ _ HP.out.1 HP.out.2 HAT.out
/-- the fields found so far, k densities being done -/
def accL (n : Nat) (ss : Nat → SV) (m : Nat) (bs : Nat → BM) (r : Nat) (pre : List Int) (L : List (List Int)) (k : Nat) : List (List Int) := L ++ ((dens (ss (n - (r + 1)))).take k).flatMap (fun d => enumF n ss (fun f => agreesB m bs (fOf f)) r (pre ++ [d]))
theorem accL_step {n : Nat} {ss : Nat → SV} {m : Nat} {bs : Nat → BM} {r : Nat} {pre : List Int} {L : List (List Int)} {k : Nat} (hk : k < densN (ss (n - (r + 1)))) : accL n ss m bs r pre L (k + 1) = accL n ss m bs r pre L k ++ enumF n ss (fun f => agreesB m bs (fOf f)) r (pre ++ [(ss (n - (r + 1))).lo + (k : Int)]) := by
  unfold accL
  rw [dens_take hk, List.flatMap_append, List.append_assoc]
  simp
theorem accL_end {n : Nat} {ss : Nat → SV} {m : Nat} {bs : Nat → BM} {r : Nat} {pre : List Int} {L : List (List Int)} : accL n ss m bs r pre L (densN (ss (n - (r + 1)))) = L ++ enumF n ss (fun f => agreesB m bs (fOf f)) (r + 1) pre := by
  unfold accL
  rw [enumF, List.take_of_length_le (by rw [dens_len]; exact Nat.le_refl _)]
theorem accL_le {n : Nat} {ss : Nat → SV} {m : Nat} {bs : Nat → BM} {r : Nat} {pre : List Int} {L : List (List Int)} {k : Nat} : (accL n ss m bs r pre L k).length ≤ L.length + (enumF n ss (fun f => agreesB m bs (fOf f)) (r + 1) pre).length := by
  unfold accL
  rw [enumF, List.length_append]
  have h : ((dens (ss (n - (r + 1)))).take k).flatMap (fun d => enumF n ss (fun f => agreesB m bs (fOf f)) r (pre ++ [d])) <+: (dens (ss (n - (r + 1)))).flatMap (fun d => enumF n ss (fun f => agreesB m bs (fOf f)) r (pre ++ [d])) := by
    refine ⟨((dens (ss (n - (r + 1)))).drop k).flatMap (fun d => enumF n ss (fun f => agreesB m bs (fOf f)) r (pre ++ [d])), ?_⟩
    rw [← List.flatMap_append, List.take_append_drop]
  have := h.length_le
  omega
/-- the loop's state -/
structure AllJ (base n : Nat) (V : World) (v : Value) (v' : Value) (L' : List (List Int)) (cs' : List Value) (W : World) : Prop where
  out : OutF base n v' L' cs' W
  grown : V.grownBy W v.ownBlock
  own : v'.ownBlock = v.ownBlock ∨ ∃ b, v'.ownBlock = some b ∧ V.heap.size ≤ b
theorem AllJ.below {B base n : Nat} {V : World} {v v' : Value} {L' : List (List Int)} {cs' : List Value} {W : World} (h : AllJ base n V v v' L' cs' W) (hB : B ≤ V.heap.size) (hv : ∀ b, v.ownBlock = some b → B ≤ b) : Below B V W :=
  ⟨h.grown.os, h.grown.tape, h.grown.output, h.grown.size, fun b hb => h.grown.block b (by omega) (fun e => by have := hv b e.symm; omega)⟩
set_option maxRecDepth 100000 in
set_option maxHeartbeats 4000000 in
theorem all_node (B base n : Nat) (ss : Nat → SV) (m : Nat) (bs : Nat → BM) (a : Option Addr) (c : Nat) (ba : Option Addr) (bc : Nat) (hSh : Shape n ss m bs) (r : Nat) (ih : AllOk B base n ss m bs a c ba bc r) : AllOk B base n ss m bs a c ba bc (r + 1) := by
  intro pre pa pc v L cs W hl hden hS hM hB1 hB2 hP hO hmax
  have hn40 := hSh.n40
  have hpn : pre.length < n := by omega
  have hnr : n - (r + 1) = pre.length := by omega
  have hsp := hSh.span pre.length hpn
  have HIH := Lib.hid ih
  have HAS := Lib.hid (fun k hk => accL_step (n := n) (ss := ss) (m := m) (bs := bs) (r := r) (pre := pre) (L := L) (k := k) hk)
  have HAE := Lib.hid (accL_end (n := n) (ss := ss) (m := m) (bs := bs) (r := r) (pre := pre) (L := L))
  have HAL := Lib.hid (fun k => Nat.le_trans (accL_le (n := n) (ss := ss) (m := m) (bs := bs) (r := r) (pre := pre) (L := L) (k := k)) hmax)
  have HA0 := Lib.hid (show accL n ss m bs r pre L 0 = L from by unfold accL; simp)
  rw [hnr] at HAS HAE
  have HR := Lib.hid (fun (W' : World) (v' : Value) (cs' : List Value) (h1 : OutF base n v' (L ++ enumF n ss (fun f => agreesB m bs (fOf f)) (r + 1) pre) cs' W') (h2 : W.grownBy W' v.ownBlock) (h3 : v'.ownBlock = v.ownBlock ∨ ∃ b, v'.ownBlock = some b ∧ W.heap.size ≤ b) => show AllRes base n L (enumF n ss (fun f => agreesB m bs (fOf f)) (r + 1) pre) v W (.returned v') W' from ⟨v', cs', rfl, h1, h2, h3⟩)
  generalize AllRes base n L (enumF n ss (fun f => agreesB m bs (fOf f)) (r + 1) pre) v W = RES at *
  obtain ⟨jt, hjt, hj0, hj1, hj2⟩ := info_parts info_int
  have HS := Lib.hid hS
  have HM := Lib.hid hM
  have HP := Lib.hid hP
  have HO := Lib.hid hO
  have HDEN := Lib.hid hden
  have HLN := Lib.hid hl
  have hvo := hO.ownlt
  have HVO := Lib.hid hvo
  generalize accL n ss m bs r pre L = AC at *
  obtain ⟨p, hpl⟩ : ∃ p, pre.length = p := ⟨_, rfl⟩
  rw [hpl] at HP HAS HAE hpn hsp hl hnr ⊢
  have HPL := Lib.hid hpl
  obtain ⟨va, vc, rfl⟩ := own_len hO.own
  obtain ⟨h1, h2, h3⟩ := hsp
  obtain ⟨sb, so, rfl, hsB, s0, s1⟩ := hS.get hpn
  have hne : ((p : Int) == (n : Int)) = false := by rw [beq_eq_false_iff_ne]; omega
  clear hS hM hP hO hden ih hmax hpl hvo hl hnr
  have hb64 : 0 + p ≤ maxLen := by unfold maxLen; omega
  have hb48 : (0 + p) * 8 ≤ 140737488355328 := by omega
  have hb65 : p + 1 ≤ maxLen := by unfold maxLen; omega
  have hb49 : (p + 1) * 8 ≤ 140737488355328 := by omega
  go_enter Tryd.func50, Tryd.ntmps50
  go_upto_region 1 with (fail)
  have HLI := Lib.hid (show LI (some ⟨sb, so, none⟩) n c ba m bc W (W.alloc (.cells #[.slice (some ⟨sb, so, none⟩) n c, .slice ba m bc] 25)) from LI_start)
  generalize World.alloc W _ = V at *
  obtain ⟨l0, l1, l2, l3⟩ := HLI.out
  have HJ := Lib.hid (show AllJ base n V (.slice va L.length vc) (.slice va L.length vc) (AC 0) cs V from ⟨by rw [HA0.out]; exact HO.out.step l3, ⟨rfl, rfl, rfl, Nat.le_refl _, fun _ _ _ => rfl⟩, .inl rfl⟩)
  have t0 := ((bcell l3).1 sb (so + p * 2) (by omega)).trans s0
  have t1 := ((bcell l3).1 sb (so + p * 2 + 1) (by omega)).trans s1
  have hsV : sb < V.heap.size := by omega
  have hWV : W.heap.size < V.heap.size := l2
  have HPV := Lib.hid (HP.out.keep (X' := fun b => b < V.heap.size ∧ (Value.slice va L.length vc).ownBlock ≠ some b) (fun b hb => ⟨Nat.lt_trans hb.1 hWV, hb.2⟩) (fun b hb => l3.block b hb.1))
  have HL3 := Lib.hid l3
  have HL0 := Lib.hid (And.intro l0 l1)
  have HT1 := Lib.hid t1
  clear s0 s1 HP HLI l3 t1
  go_upto_region 7 with (fail)
  clear t0 l0 l1
  go_loopw [2, 8] (fun s2 s8 wr => ∃ (k : Nat) (va' : Option Addr) (vc' : Nat) (cs' : List Value), k ≤ densN (ss p) ∧ s8 = .int .i64 ((ss p).lo + (k : Int)) ∧ s2 = .slice va' (AC k).length vc' ∧ Hid (AllJ base n V (.slice va L.length vc) (.slice va' (AC k).length vc') (AC k) cs' wr)) (fun _ s8 _ => densN (ss p) - (intOf s8 - (ss p).lo).toNat)
  case atStart => exact ⟨0, va, vc, cs, Nat.zero_le _, by simp, by rw [HA0.out], by rw [show (AC 0).length = L.length from by rw [HA0.out]]; exact HJ⟩
  case round =>
    clear HJ
    obtain ⟨k, va', vc', cs', hk, rfl, rfl, HJ⟩ := hrel
    have hVr := HJ.out.grown.size
    have hown : ∀ b, (Value.slice va L.length vc).ownBlock = some b → base ≤ b ∧ b < W.heap.size := HVO.out
    have HBX := Lib.hid (HJ.out.grown.block W.heap.size hWV (fun e => by have := (hown _ e.symm).2; omega))
    have d0 := (World.cell?_of_block (a := ⟨W.heap.size, 0, none⟩) HBX.out).trans HL0.out.1
    have d1 := (World.cell?_of_block (a := ⟨W.heap.size, 1, none⟩) HBX.out).trans HL0.out.2
    have t1 := (World.cell?_of_block (a := ⟨sb, so + p * 2 + 1, none⟩) (HJ.out.grown.block sb hsV (fun e => by have := (hown _ e.symm).1; omega))).trans HT1.out
    have hWr : W.heap.size < wr.heap.size := by omega
    have hsr : sb < wr.heap.size := by omega
    have hden2 : (densN (ss p) : Int) = (ss p).hi - (ss p).lo + 1 := by unfold densN; omega
    have HDEN2 := Lib.hid hden2
    by_cases hlt : k < densN (ss p)
    · have hle : (ss p).lo + (k : Int) ≤ (ss p).hi := by omega
      clear hden2
      obtain ⟨dd, hdd⟩ : ∃ dd, (ss p).lo + (k : Int) = dd := ⟨_, rfl⟩
      rw [hdd] at hle ⊢
      have HDD := Lib.hid hdd
      have hd1 : 0 ≤ dd := by omega
      have hd2 : dd ≤ 1000 := by omega
      have HDN := Lib.hid (show Value.int .i64 (dd + 1) = .int .i64 ((ss p).lo + ((k + 1 : Nat) : Int)) from by rw [← hdd]; congr 1; omega)
      have HIC := Lib.hid (show iC (fOf pre) p ++ [.int .i64 dd] = iC (fOf (pre ++ [dd])) (p + 1) from by rw [← HPL.out]; exact iC_snoc pre dd)
      have HASK := Lib.hid (HAS.out k hlt)
      rw [hdd] at HASK
      have HWN := Lib.hid (show some W.heap.size ≠ (Value.slice va' (AC k).length vc').ownBlock from fun e => by
        rcases HJ.out.own with h | ⟨b, h1, h2⟩
        · rw [h] at e; have := (hown _ e.symm).2; omega
        · rw [h1] at e; injection e with e; omega)
      have HPR := Lib.hid (HPV.out.keep (X' := fun b => b < wr.heap.size ∧ (Value.slice va' (AC k).length vc').ownBlock ≠ some b) (fun b hb => ⟨by omega, fun e => by
        rcases HJ.out.own with h | ⟨b', h1, h2⟩
        · exact hb.2 (h.symm.trans e)
        · rw [h1] at e; injection e with e; omega⟩) (fun b hb => HJ.out.grown.block b hb.1 (Ne.symm hb.2)))
      have HSRC := Lib.hid (fun (W' : World) (hb : Below wr.heap.size wr W') => show p = 0 ∨ ∃ ad, pa = some ad ∧ ∀ j u, (iC (fOf pre) p)[j]? = some u → W'.cell? (ad.add j) = some u from by
        rcases HPR.out with h | ⟨b, off, h1, h2, h3⟩
        · exact .inl h
        · refine .inr ⟨⟨b, off, none⟩, h1, fun j u hu => ?_⟩
          have hj : j < p := by have := (List.getElem?_eq_some_iff.1 hu).1; rwa [iC_len] at this
          rw [addr_add, ← hu, iC_get hj]
          exact ((bcell hb).1 _ _ h2.1).trans (h3 j hj))
      have hVW : B ≤ V.heap.size := by omega
      have HVB := Lib.hid (show Below B W wr from (HL3.out.mono (by omega)).trans (HJ.out.below hVW (fun b hb => by have := (hown b hb).1; omega)))
      have HREC := Lib.hid (fun (g2 p2 : Nat) (W6 : World) (hb6 : Below wr.heap.size wr W6) (ho6 : W6.ownsRow wr.heap.size 3 1 (.slice (some ⟨g2, 0, none⟩) (p + 1) p2) (p + 1) (iC (fOf (pre ++ [dd])) (p + 1))) (hg : wr.heap.size ≤ g2) (hg6 : g2 < W6.heap.size) => show Calls Tryd.prog 50 #[imageV (some ⟨sb, so, none⟩) n c ba m bc, .slice (some ⟨g2, 0, none⟩) (p + 1) p2, .slice va' (AC k).length vc'] W6 (fun e W7 => ∃ va7 vc7 cs7, e = .returned (.slice va7 (AC (k + 1)).length vc7) ∧ AllJ base n V (.slice va L.length vc) (.slice va7 (AC (k + 1)).length vc7) (AC (k + 1)) cs7 W7 ∧ W6.grownBy W7 (Value.slice va' (AC k).length vc').ownBlock) from by
        have hpl : (pre ++ [dd]).length = p + 1 := by rw [List.length_append, List.length_singleton, HPL.out]
        have hV6 : V.grownBy W6 (Value.slice va L.length vc).ownBlock := ⟨hb6.os.trans HJ.out.grown.os, hb6.tape.trans HJ.out.grown.tape, hb6.output.trans HJ.out.grown.output, Nat.le_trans hVr hb6.size, fun b hb hn => (hb6.block b (by omega)).trans (HJ.out.grown.block b hb hn)⟩
        have hz6 := hb6.size
        have hown' := HJ.out.out.ownlt
        have h1 := HIH.out (pre ++ [dd]) (some ⟨g2, 0, none⟩) p2 (.slice va' (AC k).length vc') (AC k) cs' W6 (by rw [hpl]; have := HLN.out; have := HPL.out; omega) (fun i hi => by
          rw [hpl] at hi
          by_cases e : i < p
          · have : fOf (pre ++ [dd]) i = fOf pre i := by
              unfold fOf
              rw [List.getD_eq_getElem?_getD, List.getD_eq_getElem?_getD, List.getElem?_append_left (by rw [HPL.out]; exact e)]
            rw [this]
            exact HDEN.out i (by rw [HPL.out]; exact e)
          · obtain rfl : i = p := by omega
            have : fOf (pre ++ [dd]) i = dd := by
              unfold fOf
              rw [List.getD_eq_getElem?_getD, List.getElem?_append_right (by rw [HPL.out]; exact Nat.le_refl _), HPL.out, Nat.sub_self]
              rfl
            rw [this]
            exact ⟨hd1, hd2⟩) (HS.out.below (HVB.out.trans (hb6.mono (by omega)))) (HM.out.below (HVB.out.trans (hb6.mono (by omega)))) hB1 (by omega)
          (by
            rw [hpl]
            refine .inr ⟨g2, 0, rfl, ⟨hg6, fun e => by have := (hown' g2 e).2; omega⟩, fun i hi => ?_⟩
            rw [Nat.zero_add, ho6.cellAt i (by omega), iC_get hi])
          (HJ.out.out.step hb6) (by
            have := HAL.out (k + 1)
            rw [HASK.out, List.length_append] at this
            exact this)
        rw [hpl] at h1
        refine h1.mono ?_
        rintro e W7 ⟨v7, cs7, rfl, k1, k2, k3⟩
        rw [← HASK.out] at k1
        obtain ⟨va7, vc7, rfl⟩ := own_len k1.own
        refine ⟨va7, vc7, cs7, rfl, ⟨k1, grown_trans hV6 k2 HJ.out.own, ?_⟩, k2⟩
        rcases k3 with h | ⟨b, h1, h2⟩
        · rcases HJ.out.own with h' | ⟨b', h1', h2'⟩
          · exact .inl (h.trans h')
          · exact .inr ⟨b', h.trans h1', h2'⟩
        · exact .inr ⟨b, h1, by omega⟩)
      clear hdd
      clear HPR HVB HPV HBX hsV
      go_upto_region 9 with (fail)
      clear t1
      refine wp_region_any (by kernel_rfl) ?_
      change wpAny _ _ _ _ _ _ _ (World.drew wr)
      have d0 : wr.drew.cell? ⟨W.heap.size, 0, none⟩ = _ := d0
      have d1 : wr.drew.cell? ⟨W.heap.size, 1, none⟩ = _ := d1
      have HD := Lib.hid (show Below wr.heap.size wr wr.drew from (Below.refl _ _).drew)
      have hzd : wr.drew.heap.size = wr.heap.size := rfl
      generalize World.drew wr = Wd at *
      have HD0 := Lib.hid (((bcell HD.out).1 W.heap.size 0 hWr).symm.trans d0)
      have HD1 := Lib.hid (((bcell HD.out).1 W.heap.size 1 hWr).symm.trans d1)
      have HZD := Lib.hid (Nat.le_of_eq hzd.symm)
      clear HJ hzd
      refine any_of_tail 8 8 (fun w' => w'.cell? ⟨W.heap.size, 0, none⟩ = some (.slice (some ⟨sb, so, none⟩) n c) ∧ w'.cell? ⟨W.heap.size, 1, none⟩ = some (.slice ba m bc)) (by kernel_rfl) ⟨d0, d1⟩ (fun hS => ?_)
      refine headH_take (i := 0) (v := ?_) rfl (by kernel_rfl) (fun _ _ _ h => h) (Or.inl ⟨by rfl, ?_⟩) (by assumption) ?_; rotate_left; (· intro w' hSw; (try dsimp only at hSw); (try obtain ⟨hSw1, hSw2⟩ := hSw); go_simp; (try with_reducible rfl)); (try dsimp only [Act.put]); (try simp only [List.setIfInBounds_toArray, List.set_cons_zero, List.set_cons_succ])
      refine headH_take (i := 1) (v := ?_) rfl (by kernel_rfl) (fun _ _ _ h => h) (Or.inl ⟨by rfl, ?_⟩) (by assumption) ?_; rotate_left; (· intro w' hSw; (try dsimp only at hSw); (try obtain ⟨hSw1, hSw2⟩ := hSw); go_simp; (try with_reducible rfl)); (try dsimp only [Act.put]); (try simp only [List.setIfInBounds_toArray, List.set_cons_zero, List.set_cons_succ])
      refine headH_take (i := 3) (v := ?_) rfl (by kernel_rfl) (fun _ _ _ h => h) (Or.inl ⟨by rfl, ?_⟩) (by assumption) ?_; rotate_left; (· intro w' hSw; (try dsimp only at hSw); (try obtain ⟨hSw1, hSw2⟩ := hSw); go_simp; (try with_reducible rfl)); (try dsimp only [Act.put]); (try simp only [List.setIfInBounds_toArray, List.set_cons_zero, List.set_cons_succ])
      refine headH_take (i := 6) (v := ?_) rfl (by kernel_rfl) (fun _ _ _ h => h) (Or.inl ⟨by rfl, ?_⟩) (by assumption) ?_; rotate_left; (· intro w' hSw; (try dsimp only at hSw); (try obtain ⟨hSw1, hSw2⟩ := hSw); go_simp; (try with_reducible rfl)); (try dsimp only [Act.put]); (try simp only [List.setIfInBounds_toArray, List.set_cons_zero, List.set_cons_succ])
      refine headH_all (rs := [2, 4]) (by kernel_rfl) (by simp) (by kernel_rfl) ?_; intro i0 hi0; simp only [List.mem_cons, List.not_mem_nil, or_false] at hi0
      rcases hi0 with rfl | rfl
      · refine headH_op rfl (fun K hK => ?_)
        refine step_append_src rfl _ _ 38 rfl (Wd).heap.size 3 jt (.int .i64 0) 1 8 Tryd.underlying38 hjt hj0 hj1 hj2 rfl (by decide) (.slice none 0 0) 0 [] rfl (World.ownsRow_nil _ _ _ _) pa p pc (iC (fOf pre) p) rfl (by rw [iC_len, Nat.mul_one]) (HSRC.out _ HD.out) iC_one hb64 hb48 (Nat.le_refl _) ?_
        intro v43 W1 hown1 hgrow1
        rw [Nat.zero_add, List.nil_append] at hown1
        obtain ⟨a43, c43, rfl⟩ := own_len hown1
        have hb1 : Below (Wd).heap.size (Wd) W1 := ⟨hgrow1.os, hgrow1.tape, hgrow1.output, hgrow1.size, fun b hb => hgrow1.block b hb (by simp [Value.ownBlock])⟩
        have hz1 := hb1.size
        clear hgrow1
        have HB1 := Lib.hid (HD.out.trans (hb1.mono HZD.out))
        have d0 := ((bcell HB1.out).1 W.heap.size 0 hWr).trans HD0.out
        have d1 := ((bcell HB1.out).1 W.heap.size 1 hWr).trans HD1.out
        refine hK.out _ _ ⟨d0, d1⟩ (fun hS => ?_)
        clear hK K
        (try dsimp only [Act.put]); (try simp only [List.setIfInBounds_toArray, List.set_cons_zero, List.set_cons_succ])
        refine headH_all (rs := [4]) (by kernel_rfl) (by simp) (by kernel_rfl) ?_; intro i0 hi0; simp only [List.mem_cons, List.not_mem_nil, or_false] at hi0
        subst hi0
        refine headH_op rfl (fun K hK => ?_)
        go_simp
        have hz2 := HB1.out.size
        have HBx := Lib.hid (HB1.out.trans ((alloc_below W1 (.cells #[.int .i64 dd] 3)).mono hz2))
        have HOx := Lib.hid (own_base (own_below hown1 (alloc_below W1 (.cells #[.int .i64 dd] 3))) HZD.out)
        have HDx := Lib.hid (heap_alloc_new W1 (.cells #[.int .i64 dd] 3))
        clear hown1 hb1 HB1 hz1 hz2 d0 d1
        generalize World.alloc W1 _ = Wx at *
        generalize W1.heap.size = db at *
        have d0 := ((bcell HBx.out).1 W.heap.size 0 hWr).trans HD0.out
        have d1 := ((bcell HBx.out).1 W.heap.size 1 hWr).trans HD1.out
        refine hK.out _ _ ⟨d0, d1⟩ (fun hS => ?_)
        clear hK K d0 d1
        (try dsimp only [Act.put]); (try simp only [List.setIfInBounds_toArray, List.set_cons_zero, List.set_cons_succ])
        refine headH_all (rs := [5]) (by kernel_rfl) (by simp) (by kernel_rfl) ?_; intro i0 hi0; simp only [List.mem_cons, List.not_mem_nil, or_false] at hi0
        subst hi0
        refine headH_op rfl (fun K hK => ?_)
        refine step_append_lies _ rfl _ _ 38 rfl wr.heap.size 3 jt (.int .i64 0) 1 8 Tryd.underlying38 hjt hj0 hj1 hj2 rfl (by decide) (.slice a43 p c43) p (iC (fOf pre) p) rfl HOx.out ⟨db, 0, none⟩ 1 1 [.int .i64 dd] rfl rfl (World.news_of_block HDx.out) (by intro u hu; simp at hu; subst hu; rfl) (by decide) hb65 hb49 HBx.out.size _ rfl ?_
        intro g2 p2 W6 hown6 hgrow6 hat6 hlt6
        have hb6 : Below wr.heap.size wr W6 := HBx.out.grown hgrow6 HBx.out.size (fun b hb => own_block_le HOx.out hb)
        have hg2 : wr.heap.size ≤ g2 := by
          rcases hat6 with h | h
          · exact own_block_le HOx.out h
          · have := HBx.out.size; omega
        rw [HIC.out] at hown6
        have HO6 := Lib.hid hown6
        have HB6 := Lib.hid hb6
        clear hown6 hgrow6 hat6 HOx HDx HBx hb6
        have hz6 := HB6.out.size
        have d0 := ((bcell HB6.out).1 W.heap.size 0 hWr).trans HD0.out
        have d1 := ((bcell HB6.out).1 W.heap.size 1 hWr).trans HD1.out
        refine hK.out _ _ ⟨d0, d1⟩ (fun hS => ?_)
        clear hK K
        (try dsimp only [Act.put]); (try simp only [List.setIfInBounds_toArray, List.set_cons_zero, List.set_cons_succ])
        refine headH_all (rs := [7]) (by kernel_rfl) (by simp) (by kernel_rfl) ?_; intro i0 hi0; simp only [List.mem_cons, List.not_mem_nil, or_false] at hi0
        subst hi0
        refine headH_op rfl (fun K hK => ?_)
        go_simp
        refine (HREC.out g2 p2 W6 HB6.out HO6.out hg2 hlt6).mono ?_
        rintro e W7 ⟨va7, vc7, cs7, rfl, h7a, h7b⟩
        dsimp only
        have HJ7 := Lib.hid h7a
        have d0 := (World.cell?_of_block (a := ⟨W.heap.size, 0, none⟩) (h7b.block W.heap.size (by omega) HWN.out)).trans d0
        have d1 := (World.cell?_of_block (a := ⟨W.heap.size, 1, none⟩) (h7b.block W.heap.size (by omega) HWN.out)).trans d1
        refine hK.out _ _ ⟨d0, d1⟩ (fun hS => ?_)
        clear hK K h7a h7b
        (try dsimp only [Act.put]); (try simp only [List.setIfInBounds_toArray, List.set_cons_zero, List.set_cons_succ])
        change tailL _ _ _ _ _ _ _ _
        refine ⟨by kernel_rfl, ?_⟩
        simp only [List.drop_succ_cons, List.drop_zero]
        clear HB6 HO6 hz6 d0 d1
        go_wp2
        exact ⟨⟨k + 1, va7, vc7, cs7, by omega, HDN.out, rfl, HJ7⟩, by show densN (ss p) - ((dd + 1) - (ss p).lo).toNat < densN (ss p) - (dd - (ss p).lo).toNat; have := HDD.out; omega⟩
      · refine headH_op rfl (fun K hK => ?_)
        go_simp
        have HBd := Lib.hid (HD.out.trans ((alloc_below Wd (.cells #[.int .i64 dd] 3)).mono HD.out.size))
        have HDd := Lib.hid (heap_alloc_new Wd (.cells #[.int .i64 dd] 3))
        have hdl : Wd.heap.size < (Wd.alloc (.cells #[.int .i64 dd] 3)).heap.size := by simp
        generalize World.alloc Wd _ = Wy at *
        generalize Wd.heap.size = db at *
        have d0 := ((bcell HBd.out).1 W.heap.size 0 hWr).trans HD0.out
        have d1 := ((bcell HBd.out).1 W.heap.size 1 hWr).trans HD1.out
        refine hK.out _ _ ⟨d0, d1⟩ (fun hS => ?_)
        clear hK K d0 d1
        (try dsimp only [Act.put]); (try simp only [List.setIfInBounds_toArray, List.set_cons_zero, List.set_cons_succ])
        refine headH_all (rs := [2]) (by kernel_rfl) (by simp) (by kernel_rfl) ?_; intro i0 hi0; simp only [List.mem_cons, List.not_mem_nil, or_false] at hi0
        subst hi0
        refine headH_op rfl (fun K hK => ?_)
        refine step_append_src rfl _ _ 38 rfl (Wy).heap.size 3 jt (.int .i64 0) 1 8 Tryd.underlying38 hjt hj0 hj1 hj2 rfl (by decide) (.slice none 0 0) 0 [] rfl (World.ownsRow_nil _ _ _ _) pa p pc (iC (fOf pre) p) rfl (by rw [iC_len, Nat.mul_one]) (HSRC.out _ HBd.out) iC_one hb64 hb48 (Nat.le_refl _) ?_
        intro v43 W1 hown1 hgrow1
        rw [Nat.zero_add, List.nil_append] at hown1
        obtain ⟨a43, c43, rfl⟩ := own_len hown1
        have hb1 : Below (Wy).heap.size (Wy) W1 := ⟨hgrow1.os, hgrow1.tape, hgrow1.output, hgrow1.size, fun b hb => hgrow1.block b hb (by simp [Value.ownBlock])⟩
        have hz1 := hb1.size
        clear hgrow1
        have HBx := Lib.hid (HBd.out.trans (hb1.mono HBd.out.size))
        have HOx := Lib.hid (own_base hown1 HBd.out.size)
        have HDx := Lib.hid ((hb1.block db hdl).trans HDd.out)
        clear hown1 hb1 hz1 HBd HDd
        have d0 := ((bcell HBx.out).1 W.heap.size 0 hWr).trans HD0.out
        have d1 := ((bcell HBx.out).1 W.heap.size 1 hWr).trans HD1.out
        refine hK.out _ _ ⟨d0, d1⟩ (fun hS => ?_)
        clear hK K d0 d1
        (try dsimp only [Act.put]); (try simp only [List.setIfInBounds_toArray, List.set_cons_zero, List.set_cons_succ])
        refine headH_all (rs := [5]) (by kernel_rfl) (by simp) (by kernel_rfl) ?_; intro i0 hi0; simp only [List.mem_cons, List.not_mem_nil, or_false] at hi0
        subst hi0
        refine headH_op rfl (fun K hK => ?_)
        refine step_append_lies _ rfl _ _ 38 rfl wr.heap.size 3 jt (.int .i64 0) 1 8 Tryd.underlying38 hjt hj0 hj1 hj2 rfl (by decide) (.slice a43 p c43) p (iC (fOf pre) p) rfl HOx.out ⟨db, 0, none⟩ 1 1 [.int .i64 dd] rfl rfl (World.news_of_block HDx.out) (by intro u hu; simp at hu; subst hu; rfl) (by decide) hb65 hb49 HBx.out.size _ rfl ?_
        intro g2 p2 W6 hown6 hgrow6 hat6 hlt6
        have hb6 : Below wr.heap.size wr W6 := HBx.out.grown hgrow6 HBx.out.size (fun b hb => own_block_le HOx.out hb)
        have hg2 : wr.heap.size ≤ g2 := by
          rcases hat6 with h | h
          · exact own_block_le HOx.out h
          · have := HBx.out.size; omega
        rw [HIC.out] at hown6
        have HO6 := Lib.hid hown6
        have HB6 := Lib.hid hb6
        clear hown6 hgrow6 hat6 HOx HDx HBx hb6
        have hz6 := HB6.out.size
        have d0 := ((bcell HB6.out).1 W.heap.size 0 hWr).trans HD0.out
        have d1 := ((bcell HB6.out).1 W.heap.size 1 hWr).trans HD1.out
        refine hK.out _ _ ⟨d0, d1⟩ (fun hS => ?_)
        clear hK K
        (try dsimp only [Act.put]); (try simp only [List.setIfInBounds_toArray, List.set_cons_zero, List.set_cons_succ])
        refine headH_all (rs := [7]) (by kernel_rfl) (by simp) (by kernel_rfl) ?_; intro i0 hi0; simp only [List.mem_cons, List.not_mem_nil, or_false] at hi0
        subst hi0
        refine headH_op rfl (fun K hK => ?_)
        go_simp
        refine (HREC.out g2 p2 W6 HB6.out HO6.out hg2 hlt6).mono ?_
        rintro e W7 ⟨va7, vc7, cs7, rfl, h7a, h7b⟩
        dsimp only
        have HJ7 := Lib.hid h7a
        have d0 := (World.cell?_of_block (a := ⟨W.heap.size, 0, none⟩) (h7b.block W.heap.size (by omega) HWN.out)).trans d0
        have d1 := (World.cell?_of_block (a := ⟨W.heap.size, 1, none⟩) (h7b.block W.heap.size (by omega) HWN.out)).trans d1
        refine hK.out _ _ ⟨d0, d1⟩ (fun hS => ?_)
        clear hK K h7a h7b
        (try dsimp only [Act.put]); (try simp only [List.setIfInBounds_toArray, List.set_cons_zero, List.set_cons_succ])
        change tailL _ _ _ _ _ _ _ _
        refine ⟨by kernel_rfl, ?_⟩
        simp only [List.drop_succ_cons, List.drop_zero]
        clear HB6 HO6 hz6 d0 d1
        go_wp2
        exact ⟨⟨k + 1, va7, vc7, cs7, by omega, HDN.out, rfl, HJ7⟩, by show densN (ss p) - ((dd + 1) - (ss p).lo).toNat < densN (ss p) - (dd - (ss p).lo).toNat; have := HDD.out; omega⟩
    · obtain rfl : k = densN (ss p) := by omega
      have hle : ¬ (ss p).lo + ((densN (ss p) : Nat) : Int) ≤ (ss p).hi := by omega
      have HFR := Lib.hid (HR.out wr _ cs' (by rw [← HAE.out]; exact HJ.out.out) (show W.grownBy wr (Value.slice va L.length vc).ownBlock from ⟨HJ.out.grown.os.trans HL3.out.os, HJ.out.grown.tape.trans HL3.out.tape, HJ.out.grown.output.trans HL3.out.output, by omega, fun b hb hn => (HJ.out.grown.block b (by omega) hn).trans (HL3.out.block b hb)⟩) (by
        rcases HJ.out.own with h | ⟨b, h1, h2⟩
        · exact .inl h
        · exact .inr ⟨b, h1, by omega⟩))
      clear hden2
      go_wp2
      exact HFR.out
theorem all_any (B base n : Nat) (ss : Nat → SV) (m : Nat) (bs : Nat → BM) (a : Option Addr) (c : Nat) (ba : Option Addr) (bc : Nat) (hSh : Shape n ss m bs) : ∀ r, AllOk B base n ss m bs a c ba bc r
  | 0 => all_leaf B base n ss m bs a c ba bc hSh
  | r + 1 => all_node B base n ss m bs a c ba bc hSh r (all_any B base n ss m bs a c ba bc hSh r)
set_option maxRecDepth 100000 in
set_option maxHeartbeats 1000000 in
theorem r8All_any (a : Option Addr) (n c : Nat) (ba : Option Addr) (m bc : Nat) (ss : Nat → SV) (bs : Nat → BM) (w : World) (B : Nat) (hBw : B ≤ w.heap.size) (hS : Spans B w a n ss) (hM : Beams B w ba m bs) (hSh : Shape n ss m bs) (hmax : (allF n ss m bs).length ≤ 1000000) :
    Calls Tryd.prog 14 #[imageV a n c ba m bc] w fun e w' => (∃ la lc, e = .returned (.slice la (allF n ss m bs).length lc) ∧ Flds w'.heap.size w' la n (allF n ss m bs)) ∧ Below w.heap.size w w' := by
  have HCL := Lib.hid (fun (W : World) (hb : Below w.heap.size w W) => (all_any B w.heap.size n ss m bs a c ba bc hSh n [] none 0 (.slice none 0 0) [] [] W (by simp) (fun i hi => by simp at hi) (hS.below (hb.mono hBw)) (hM.below (hb.mono hBw)) hBw hb.size (.inl rfl) (OutF.nil _ _ _) (by simpa [allF] using hmax)).mono (R' := fun e W' => (∃ la lc, e = .returned (.slice la (allF n ss m bs).length lc) ∧ Flds W'.heap.size W' la n (allF n ss m bs)) ∧ Below W.heap.size W W') fun e W' h => by
    obtain ⟨v', cs', rfl, h1, h2, _⟩ := h
    rw [List.nil_append] at h1
    change OutF w.heap.size n v' (allF n ss m bs) cs' W' at h1
    obtain ⟨la, lc, rfl, hf⟩ := h1.flds
    exact ⟨⟨la, lc, rfl, hf⟩, h2.os, h2.tape, h2.output, h2.size, fun b hb => h2.block b hb (by simp [Value.ownBlock])⟩)
  generalize (allF n ss m bs).length = N at *
  clear hS hM hSh
  go_enter Tryd.func14, Tryd.ntmps14
  go_upto_region 1 with (fail)
  have HLI := Lib.hid (show LI a n c ba m bc w (w.alloc (.cells #[.slice a n c, .slice ba m bc] 25)) from LI_start)
  generalize World.alloc w _ = V at *
  obtain ⟨l0, l1, l2, l3⟩ := HLI.out
  have HC := Lib.hid (HCL.out V l3)
  clear HCL
  go_wp2_with (go_at_call 50; refine HC.out.mono ?_; rintro e w2 ⟨⟨la, lc, rfl, hf⟩, hb2⟩)
  go_ret
  exact ⟨⟨la, lc, rfl, hf⟩, l3.trans (hb2.mono l3.size)⟩
end Go.Proofs.YtlfegmjdheddjaaDoor
