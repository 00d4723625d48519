/- Texts put together: PrA, PrB, PrC0. -/
import Derived.Test.YtegimepmccilfaaGreatDoorGpC
import Derived.Test.YtegimepmccilfaaGreatDoorGpB
import Derived.Deep.AppendLies
import Derived.Deep.CutBlock
import Derived.Test.YtegimepmccilfaaGreatDoorPlRd
import Derived.Test.YtegimepmccilfaaGreatDoorGpD
namespace Go.Proofs.YtegimepmccilfaaGreatDoor
open Go.RowKit
set_option linter.unusedVariables false
set_option linter.unusedSimpArgs false
def strC (ws : List Tx) : List Value := ws.map fun y => .string ⟨y.toArray⟩
theorem strC_snoc (ws : List Tx) (y : Tx) : strC (ws ++ [y]) = strC ws ++ [.string ⟨y.toArray⟩] := by simp [strC]
/-- the pieces P are cut off, the next one begins at f -/
structure SpInv (c : UInt8) (x : Tx) (i f : Nat) (P : List Tx) : Prop where
  few : P.length ≤ i
  le : i ≤ x.length → f ≤ i ∧ c ∉ (x.take i).drop f ∧ spl c x = P ++ spl c (x.drop f)
  fin : x.length < i → spl c x = P
theorem SpInv.start (c : UInt8) (x : Tx) : SpInv c x 0 0 [] := ⟨Nat.le_refl _, fun _ => ⟨Nat.le_refl _, by simp, rfl⟩, fun h => absurd h (by omega)⟩
theorem take_at {x : Tx} {i : Nat} (h : i < x.length) : x.take (i + 1) = x.take i ++ [x.getD i 0] := by
  rw [List.take_add_one, List.getElem?_eq_getElem h, List.getD_eq_getElem?_getD, List.getElem?_eq_getElem h]
  rfl
theorem drop_cut {x : Tx} {i f : Nat} (hf : f ≤ i) (h : i < x.length) : x.drop f = (x.take i).drop f ++ x.getD i 0 :: x.drop (i + 1) := by
  conv => lhs; rw [← List.take_append_drop i x]
  rw [List.drop_append_of_le_length (by rw [List.length_take]; omega), List.drop_eq_getElem_cons h, List.getD_eq_getElem?_getD, List.getElem?_eq_getElem h]
  rfl
theorem SpInv.go {c : UInt8} {x : Tx} {i f : Nat} {P : List Tx} (h : SpInv c x i f P) (hi : i < x.length) (hc : ¬ x.getD i 0 = c) : SpInv c x (i + 1) f P := by
  obtain ⟨h1, h2, h3⟩ := h.le (by omega)
  refine ⟨by have := h.few; omega, fun _ => ⟨by omega, ?_, h3⟩, fun h => absurd h (by omega)⟩
  rw [take_at hi, List.drop_append_of_le_length (by rw [List.length_take]; omega), List.mem_append]
  rintro (hm | hm)
  · exact h2 hm
  · exact hc (List.mem_singleton.1 hm).symm
theorem SpInv.cut {c : UInt8} {x : Tx} {i f : Nat} {P : List Tx} (h : SpInv c x i f P) (hi : i < x.length) (hc : x.getD i 0 = c) : SpInv c x (i + 1) (i + 1) (P ++ [(x.take i).drop f]) := by
  obtain ⟨h1, h2, h3⟩ := h.le (by omega)
  refine ⟨by rw [List.length_append, List.length_singleton]; have := h.few; omega, fun _ => ⟨Nat.le_refl _, ?_, ?_⟩, fun h => absurd h (by omega)⟩
  · rw [List.drop_eq_nil_of_le (by rw [List.length_take]; omega)]
    exact List.not_mem_nil
  · rw [h3, drop_cut h1 hi, hc, spl_app _ h2, List.append_assoc]
    rfl
theorem SpInv.last {c : UInt8} {x : Tx} {i f : Nat} {P : List Tx} (h : SpInv c x i f P) (hi : i = x.length) : SpInv c x (i + 1) (i + 1) (P ++ [(x.take i).drop f]) := by
  subst hi
  obtain ⟨h1, h2, h3⟩ := h.le (Nat.le_refl _)
  rw [List.take_length] at h2 ⊢
  refine ⟨by rw [List.length_append, List.length_singleton]; have := h.few; omega, fun h => absurd h (by omega), fun _ => ?_⟩
  rw [h3, spl_no h2]
theorem ex_drop (x : Tx) (f i : Nat) : (⟨x.toArray⟩ : ByteArray).extract f i = ⟨((x.take i).drop f).toArray⟩ := by
  apply ByteArray.ext
  rw [ByteArray.data_extract]
  simp [List.drop_take]
def RSplit (c : UInt8) (x : Tx) (w : World) (e : Ending) (w' : World) : Prop := ∃ a cap, e = .returned (.slice a (spl c x).length cap) ∧ w'.ownsRow w.heap.size 9 1 (.slice a (spl c x).length cap) (spl c x).length (strC (spl c x)) ∧ Below w.heap.size w w'
set_option maxRecDepth 100000 in
set_option maxHeartbeats 1000000 in
theorem rSplit_any (c : UInt8) (x : Tx) (hx : x.length ≤ 60000) (w : World) : Calls Tryz.prog 30 #[.string ⟨x.toArray⟩, .int .u8 (c.toNat : Int)] w (RSplit c x w) := by
  have HR := Lib.hid (fun (W' : World) (a : Option Addr) (cap : Nat) (P : List Tx) (hp : spl c x = P) (ho : W'.ownsRow w.heap.size 9 1 (.slice a P.length cap) P.length (strC P)) (hb : Below w.heap.size w W') => show RSplit c x w (.returned (.slice a P.length cap)) W' from ⟨a, cap, by rw [hp], by rw [hp]; exact ho, hb⟩)
  generalize RSplit c x w = RES at *
  have hsz : (⟨x.toArray⟩ : ByteArray).size = x.length := pl_size x
  have hget : ∀ i (h : i < x.length) (h' : i < (⟨x.toArray⟩ : ByteArray).size), (⟨x.toArray⟩ : ByteArray)[i]'h' = x.getD i 0 := fun i h h' => by
    rw [List.getD_eq_getElem?_getD, List.getElem?_eq_getElem h]
    rfl
  have HEX := Lib.hid (fun f i => ex_drop x f i)
  go_enter Tryz.func30, Tryz.ntmps30
  go_wp2
  go_loopw [5, 6, 7] (fun s5 s6 s7 wr => ∃ (i f : Nat) (P : List Tx) (v : Value), i ≤ x.length + 1 ∧ s5 = v ∧ s6 = .int .i64 (f : Int) ∧ s7 = .int .i64 (i : Int) ∧ Hid (SpInv c x i f P) ∧ Hid (wr.ownsRow w.heap.size 9 1 v P.length (strC P)) ∧ Hid (Below w.heap.size w wr)) (fun _ _ s7 _ => x.length + 1 - (intOf s7).toNat)
  case atStart => exact ⟨0, 0, [], .slice none 0 0, by omega, rfl, rfl, rfl, Lib.hid (SpInv.start _ _), Lib.hid (World.ownsRow_nil _ _ _ _), Lib.hid (Below.refl _ _)⟩
  case round =>
    obtain ⟨i, f, P, v, hi, rfl, rfl, rfl, HI, HO, HB⟩ := hrel
    obtain ⟨va, vc, rfl⟩ := own_len HO.out
    by_cases hil : i ≤ x.length
    case neg =>
      obtain rfl : i = x.length + 1 := by omega
      have hil' : ¬ ((x.length + 1 : Nat) : Int) ≤ (x.length : Int) := by omega
      have HF := Lib.hid (HI.out.fin (by omega))
      clear hil hi
      go_wp2
      exact HR.out _ _ _ _ HF.out HO.out HB.out
    case pos =>
      have hil' : (i : Int) ≤ (x.length : Int) := by omega
      obtain ⟨hfi, _, _⟩ := HI.out.le hil
      have hPl := HI.out.few
      have HPL := Lib.hid (show P.length ≤ 60000 by omega)
      go_upto_region 6 with (fail)
      go_cut [24] from 14 to 24 (fun s24 wx => s24 = .bool (decide (i = x.length ∨ x.getD i 0 = c)) ∧ wx = wr)
      case first =>
        by_cases hie : i = x.length
        · have HD := Lib.hid (show decide (i = x.length ∨ x.getD i 0 = c) = true from decide_eq_true (.inl hie))
          have hd1 : ((i : Int) == (x.length : Int)) = true := by rw [beq_iff_eq]; omega
          clear hie hget
          go_wp2
          go_meet
          exact ⟨by rw [HD.out], rfl⟩
        · have hd1 : ((i : Int) == (x.length : Int)) = false := by rw [beq_eq_false_iff_ne]; omega
          have hlt : i < x.length := by omega
          have hlt' : (i : Int) < (x.length : Int) := by omega
          have hg := hget i hlt
          clear hget
          generalize x.getD i 0 = b at *
          have HD := Lib.hid (show decide (i = x.length ∨ b = c) = decide (b = c) by simp [hie])
          have HBC := Lib.hid (show (((b.toNat : Int) == (c.toNat : Int)) = decide (b = c)) by
            by_cases h : b = c
            · subst h; simp
            · have h2 : ¬ b.toNat = c.toNat := fun e => h (UInt8.toNat_inj.1 e)
              rw [decide_eq_false h, beq_eq_false_iff_ne]
              omega)
          go_wp2
          go_meet
          exact ⟨by rw [HD.out, HBC.out], rfl⟩
      case rest =>
        obtain ⟨rfl, rfl⟩ := hcut
        by_cases hd : i = x.length ∨ x.getD i 0 = c
        case neg =>
          have HI2 := Lib.hid (HI.out.go (by omega) (fun h => hd (.inr h)))
          rw [decide_eq_false hd]
          clear hd HI hget
          go_wp2
          go_roundw
          case rel => exact ⟨i + 1, f, P, _, by omega, rfl, rfl, by go_num, HI2, HO, HB⟩
          case measure => simp [intOf]; omega
        case pos =>
          have HI2 := Lib.hid (show SpInv c x (i + 1) (i + 1) (P ++ [(x.take i).drop f]) from by
            by_cases hie : i = x.length
            · exact HI.out.last hie
            · exact HI.out.cut (by omega) (by rcases hd with h | h; exact absurd h hie; exact h))
          have hex := HEX.out f i
          rw [decide_eq_true hd]
          generalize (x.take i).drop f = y at *
          have hif' : (f : Int) ≤ (i : Int) := by omega
          have HB0 := Lib.hid HB.out.size
          obtain ⟨j0, hj0, hz0, hz1, hz2⟩ := info_parts info_str
          have hb63 : P.length + 1 ≤ maxLen := by have := HPL.out; unfold maxLen; omega
          have hb47 : (P.length + 1) * 16 ≤ 140737488355328 := by have := HPL.out; omega
          have hone : ∀ u ∈ [Value.string ⟨y.toArray⟩], u.oneCell' = true := by
            intro u hu
            simp only [List.mem_cons, List.not_mem_nil, or_false] at hu
            subst hu
            rfl
          have HONE := Lib.hid hone
          clear hd HI hget hone
          go_wp2_with (at_builtin; refine wpList_append_own _ rfl _ _ 60 rfl w.heap.size 9 j0 _ 1 16 Tryz.underlying60 hj0 hz0 hz1 hz2 rfl (by decide) (.slice va P.length vc) P.length (strC P) rfl (HO.out.alloc _) ⟨wc.heap.size, 0, none⟩ 1 1 [.string ⟨y.toArray⟩] rfl rfl cells_new HONE.out hb63 hb47 (by have := HB0.out; simp; omega) ?_; intro v' w6 hown6 hgrow6 hnil6)
          have HO2 := Lib.hid (show w6.ownsRow w.heap.size 9 1 v' (P ++ [y]).length (strC (P ++ [y])) from by rw [List.length_append, List.length_singleton, strC_snoc]; exact hown6)
          have HB2 := Lib.hid ((HB.out.alloc HB0.out (.cells #[.string ⟨y.toArray⟩] 9)).grown hgrow6 (by have := HB0.out; simp; omega) (fun g e => ((HO.out.alloc (.cells #[.string ⟨y.toArray⟩] 9)).lt g e).1))
          refine ⟨⟨i + 1, i + 1, P ++ [y], v', by omega, rfl, by go_num, by go_num, HI2, HO2, HB2⟩, ?_⟩
          simp only [intOf]
          omega
end Go.Proofs.YtegimepmccilfaaGreatDoor
namespace Go.Proofs.YtegimepmccilfaaGreatDoor
open Go.RowKit
set_option linter.unusedVariables false
set_option linter.unusedSimpArgs false
/-- where a word stands in a list, from one on; 0 where it doesn't -/
def ixZ (ls : List Tx) (y : Tx) : Nat := (ixR ls y).getD 0
set_option maxRecDepth 100000 in
set_option maxHeartbeats 1000000 in
theorem rIndex_any (b : Nat) (ls : List Tx) (y : Tx) (w : World) (hll : ls.length ≤ 3) (hL : ∀ i, i < ls.length → w.cell? ⟨b, i, none⟩ = some (.string ⟨(ls.getD i []).toArray⟩)) :
    Calls Tryz.prog 55 #[.slice (some ⟨b, 0, none⟩) ls.length ls.length, .string ⟨y.toArray⟩] w fun e w' => e = .returned (.int .i64 (ixZ ls y : Int)) ∧ w = w' := by
  have HHIT := Lib.hid (fun (i : Nat) (h1 : i < ls.length) (h2 : ∀ j, j < i → ¬ ls.getD j [] = y) (h3 : ls.getD i [] = y) => show ixZ ls y = i + 1 by unfold ixZ; rw [ix_hit h1 h2 h3]; rfl)
  have HMISS := Lib.hid (fun (h : ∀ j, j < ls.length → ¬ ls.getD j [] = y) => show ixZ ls y = 0 by unfold ixZ; rw [ix_miss h]; rfl)
  have HL := Lib.hid hL
  clear hL
  generalize ixZ ls y = Z at *
  go_enter Tryz.func55, Tryz.ntmps55
  go_wp2
  go_loopw [5] (fun s5 wr => ∃ i : Nat, i ≤ ls.length ∧ s5 = .int .i64 (i : Int) ∧ Hid (∀ j, j < i → ¬ ls.getD j [] = y) ∧ w = wr) (fun s5 _ => ls.length - (intOf s5).toNat)
  case atStart => exact ⟨0, Nat.zero_le _, rfl, Lib.hid (fun j hj => by omega), rfl⟩
  case round =>
    obtain ⟨i, hi, rfl, HALL, rfl⟩ := hrel
    by_cases hlt : i < ls.length
    · have hlt' : (i : Int) < (ls.length : Int) := by omega
      have d0 := HL.out i hlt
      by_cases hz : ls.getD i [] = y
      · have hz' : (ls.getD i [] == y) = true := by simpa using hz
        have HE := Lib.hid (HHIT.out i hlt HALL.out hz)
        clear hz
        generalize ls.getD i [] = z at *
        go_wp2
        go_ret
        exact ⟨by rw [HE.out]; rfl, rfl⟩
      · have hz' : (ls.getD i [] == y) = false := by simpa using hz
        have HALL2 := Lib.hid (show ∀ j, j < i + 1 → ¬ ls.getD j [] = y from fun j hj => by
          by_cases e : j = i
          · subst e; exact hz
          · exact HALL.out j (by omega))
        clear hz HALL
        generalize ls.getD i [] = z at *
        go_wp2
        go_roundw
        case rel => exact ⟨i + 1, by omega, by go_num, HALL2, by trivial⟩
        case measure => simp [intOf]; omega
    · obtain rfl : i = ls.length := by omega
      have hlt' : ¬ (ls.length : Int) < (ls.length : Int) := by omega
      have HE := Lib.hid (HMISS.out HALL.out)
      go_wp2
      go_ret
      exact ⟨by rw [HE.out]; rfl, rfl⟩
/-- what Number hands back -/
def numV (x : Tx) : Value := match nmR x with
  | none => .tuple #[.int .i64 0, .bool false]
  | some n => .tuple #[.int .i64 n, .bool true]
theorem all_take {d : Tx} {i : Nat} (h : (d.take i).all dgB = true) (hi : i < d.length) (hb : dgB (d.getD i 0) = true) : (d.take (i + 1)).all dgB = true := by
  rw [take_at hi, List.all_append, h]
  simpa using hb
theorem from_take {d : Tx} {i n : Nat} (h : Lib.decFrom 0 (d.take i) = some n) (hi : i < d.length) (hb : dgB (d.getD i 0) = true) : Lib.decFrom 0 (d.take (i + 1)) = some (10 * n + ((d.getD i 0).toNat - 48)) := by
  rw [take_at hi, decFrom_append _ _ _ _ h]
  show (match Lib.digitVal (d.getD i 0) with | some v => Lib.decFrom (n * 10 + v) [] | none => none) = _
  rw [dg_val hb]
  show some _ = some _
  congr 1
  omega
theorem not_dg {d : Tx} {i : Nat} (hi : i < d.length) (hb : ¬ dgB (d.getD i 0) = true) : ¬ d.all dgB = true := fun h => by
  rw [List.all_eq_true] at h
  refine hb (h _ ?_)
  rw [List.getD_eq_getElem?_getD, List.getElem?_eq_getElem hi]
  exact List.getElem_mem _
set_option maxRecDepth 100000 in
set_option maxHeartbeats 1000000 in
theorem rNumber_any (x : Tx) (hx : x.length ≤ 60000) (w : World) : Calls Tryz.prog 56 #[.string ⟨x.toArray⟩] w fun e w' => e = .returned (numV x) ∧ w = w' := by
  have HNO := Lib.hid (@nm_no x)
  obtain ⟨d, mn, hd, hmn, hxd⟩ : ∃ (d : Tx) (mn : Bool), Lib.trimPrefix x [45] = d ∧ (mn = true → x = 45 :: d) ∧ (mn = false → x = d ∧ ∀ r, x ≠ 45 :: r) := by
    rcases trim_minus x with ⟨d, h1, h2⟩ | ⟨h1, h2⟩
    · exact ⟨d, true, h2, fun _ => h1, fun h => (by cases h)⟩
    · exact ⟨x, false, h2, fun h => (by cases h), fun _ => ⟨rfl, h1⟩⟩
  rw [hd] at HNO
  have HOK := Lib.hid (fun (h1 : 1 ≤ d.length) (h2 : d.length ≤ 10) (h3 : d.all dgB = true) (u : Nat) (hu : Lib.decFrom 0 d = some u) => show numV x = (if Lib.decDigits u = d ∧ ¬ (mn = true ∧ u = 0) then .tuple #[.int .i64 (if mn = true then -(u : Int) else (u : Int)), .bool true] else .tuple #[.int .i64 0, .bool false]) ∧ u ≤ 9999999999 from by
    obtain ⟨v, hv, hb, e1, e2⟩ := nm_ref h1 h2 h3
    rw [hu] at hv
    injection hv with hv
    subst hv
    refine ⟨?_, hb⟩
    unfold numV
    cases mn with
    | true =>
      rw [hmn rfl, e1]
      by_cases hc : Lib.decDigits u = d ∧ u ≠ 0
      · rw [if_pos hc, if_pos ⟨hc.1, fun h => hc.2 h.2⟩]
        rfl
      · rw [if_neg hc, if_neg (fun h => hc ⟨h.1, fun h0 => h.2 ⟨rfl, h0⟩⟩)]
    | false =>
      rw [(hxd rfl).1, e2]
      by_cases hc : Lib.decDigits u = d
      · rw [if_pos hc, if_pos ⟨hc, fun h => by cases h.1⟩]
        rfl
      · rw [if_neg hc, if_neg (fun h => hc h.1)])
  have HBAD := Lib.hid (fun (h : ¬ ((1 ≤ d.length ∧ d.length ≤ 10) ∧ d.all dgB = true)) => show numV x = .tuple #[.int .i64 0, .bool false] from by unfold numV; rw [HNO.out h])
  clear HNO hd
  generalize hR : numV x = R at *
  clear hR
  have hsx : (⟨x.toArray⟩ : ByteArray).size = x.length := pl_size x
  have HMN := Lib.hid hmn
  have HXD := Lib.hid hxd
  clear hmn hxd
  go_enter Tryz.func56, Tryz.ntmps56
  go_upto_region 1 with (fail)
  go_cut [4] from 7 to 14 (fun s4 wx => s4 = .bool mn ∧ wx = w)
  case first =>
    cases mn with
    | true =>
      obtain rfl := HMN.out rfl
      have h0 : (0 : Int) < ((45 :: d : Tx).length : Int) := by rw [List.length_cons]; omega
      clear HMN HXD HOK HBAD
      go_wp2
      go_meet
      exact ⟨rfl, rfl⟩
    | false =>
      cases hxc : x with
      | nil =>
        subst hxc
        clear HMN HXD HOK HBAD
        go_wp2
        go_meet
        exact ⟨rfl, rfl⟩
      | cons b r =>
        subst hxc
        have hb45 : ¬ b = 45 := fun e => (HXD.out rfl).2 r (by rw [e])
        have h0 : (0 : Int) < ((b :: r : Tx).length : Int) := by rw [List.length_cons]; omega
        clear HMN HXD HOK HBAD
        have hbf : ((b.toNat : Int) == 45) = false := by
          rw [beq_eq_false_iff_ne]
          intro e
          exact hb45 (UInt8.toNat_inj.1 (show b.toNat = 45 by omega))
        go_wp2
        go_meet
        exact ⟨rfl, rfl⟩
  case rest =>
    obtain ⟨rfl, rfl⟩ := hcut
    go_upto_if 15 with (fail)
    go_cut [0] from 16 to 17 (fun s0 wx => s0 = .string ⟨d.toArray⟩ ∧ wx = wc)
    case first =>
      cases mn with
      | true =>
        obtain rfl := HMN.out rfl
        have hex := ex_drop (45 :: d) 1 (d.length + 1)
        have hex2 : ((45 :: d : Tx).take (d.length + 1)).drop 1 = d := by simp
        rw [hex2] at hex
        have h1 : (1 : Int) ≤ (d.length : Int) + 1 := by omega
        clear HMN HXD HOK HBAD hex2
        go_wp2
        go_meet
        exact ⟨rfl, rfl⟩
      | false =>
        obtain rfl := (HXD.out rfl).1
        clear HMN HXD HOK HBAD
        go_wp2
        go_meet
        exact ⟨rfl, rfl⟩
    case rest =>
      obtain ⟨rfl, rfl⟩ := hcut
      have hdl : d.length ≤ 60000 := by
        cases mn with
        | true => have h := HMN.out rfl; rw [h] at hx; simp at hx; omega
        | false => rw [← (HXD.out rfl).1]; exact hx
      have hsd : (⟨d.toArray⟩ : ByteArray).size = d.length := pl_size d
      clear HMN HXD hsx
      by_cases h1 : d.length < 1
      · have HB := Lib.hid (HBAD.out (fun h => by omega))
        have h1' : (d.length : Int) < 1 := by omega
        clear HOK HBAD h1
        go_wp2
        go_ret2
        rw [HB.out]
        exact ⟨rfl, rfl⟩
      have h1' : ¬ (d.length : Int) < 1 := by omega
      by_cases h2 : 10 < d.length
      · have HB := Lib.hid (HBAD.out (fun h => by omega))
        have h2' : (10 : Int) < (d.length : Int) := by omega
        clear HOK HBAD h1 h2
        go_wp2
        go_ret2
        rw [HB.out]
        exact ⟨rfl, rfl⟩
      have h2' : ¬ (10 : Int) < (d.length : Int) := by omega
      have h10 : d.length ≤ 10 := by omega
      have hd1 : 1 ≤ d.length := by omega
      clear h1 h2
      go_upto_region 8 with (fail)
      go_loopw [5, 6] (fun s5 s6 wr => ∃ (i n : Nat), i ≤ d.length ∧ (n < 10 ^ i) ∧ s5 = .int .i64 (n : Int) ∧ s6 = .int .i64 (i : Int) ∧ Hid ((d.take i).all dgB = true ∧ Lib.decFrom 0 (d.take i) = some n) ∧ wr = wc) (fun _ s6 _ => d.length - (intOf s6).toNat)
      case atStart => exact ⟨0, 0, by omega, by decide, rfl, rfl, Lib.hid ⟨rfl, rfl⟩, rfl⟩
      case round =>
        obtain ⟨i, n, hi, hn, rfl, rfl, HI, rfl⟩ := hrel
        by_cases hlt : i < d.length
        case neg =>
          obtain rfl : i = d.length := by omega
          have hlt' : ¬ (d.length : Int) < (d.length : Int) := by omega
          have ht : d.take d.length = d := List.take_length
          have HI2 := Lib.hid (show d.all dgB = true ∧ Lib.decFrom 0 d = some n from by have h := HI.out; rw [ht] at h; exact h)
          obtain ⟨hR2, hn9⟩ := HOK.out hd1 h10 HI2.out.1 n HI2.out.2
          have HR2 := Lib.hid hR2
          have HDC := Lib.hid (fun (W : World) => r1decN_any n hn9 W)
          clear HOK HBAD HI hR2 ht hn HI2
          by_cases hc : Lib.decDigits n = d
          case neg =>
            have hc' : (Lib.decDigits n == d) = false := by simpa using hc
            have HB := Lib.hid (show R = .tuple #[.int .i64 0, .bool false] from by rw [HR2.out, if_neg (fun h => hc h.1)])
            clear hc HR2
            generalize Lib.decDigits n = D at *
            go_wp2_with (go_at_call 26; refine (HDC.out _).mono ?_; rintro e w2 ⟨rfl, rfl⟩)
            go_ret2
            rw [HB.out]
            exact ⟨rfl, rfl⟩
          case pos =>
            rw [hc] at HR2 HDC
            clear hc
            cases mn with
            | false =>
              have HB := Lib.hid (show R = .tuple #[.int .i64 (n : Int), .bool true] from by rw [HR2.out]; simp)
              clear HR2
              go_wp2_with (go_at_call 26; refine (HDC.out _).mono ?_; rintro e w2 ⟨rfl, rfl⟩)
              go_ret2
              rw [HB.out]
              exact ⟨rfl, rfl⟩
            | true =>
              by_cases h0 : n = 0
              · subst h0
                have HB := Lib.hid (show R = .tuple #[.int .i64 0, .bool false] from by rw [HR2.out]; simp)
                clear HR2
                go_wp2_with (go_at_call 26; refine (HDC.out _).mono ?_; rintro e w2 ⟨rfl, rfl⟩)
                go_ret2
                rw [HB.out]
                exact ⟨rfl, rfl⟩
              · have HB := Lib.hid (show R = .tuple #[.int .i64 (-(n : Int)), .bool true] from by rw [HR2.out]; simp [h0])
                have h0' : ((n : Int) == 0) = false := by rw [beq_eq_false_iff_ne]; omega
                clear HR2 h0
                go_wp2_with (go_at_call 26; refine (HDC.out _).mono ?_; rintro e w2 ⟨rfl, rfl⟩)
                go_ret2
                rw [HB.out]
                exact ⟨rfl, rfl⟩
        case pos =>
          have hlt' : (i : Int) < (d.length : Int) := by omega
          have hn9 : n ≤ 999999999 := by
            have h1 : 10 ^ i ≤ 10 ^ 9 := Nat.pow_le_pow_right (by decide) (by omega)
            omega
          have hget : ∀ (h' : i < (⟨d.toArray⟩ : ByteArray).size), (⟨d.toArray⟩ : ByteArray)[i]'h' = d.getD i 0 := fun h' => by
            rw [List.getD_eq_getElem?_getD, List.getElem?_eq_getElem hlt]
            rfl
          by_cases hb : dgB (d.getD i 0) = true
          case neg =>
            have HB := Lib.hid (HBAD.out (fun h => not_dg hlt hb h.2))
            clear HOK HBAD HI
            generalize d.getD i 0 = b at *
            have hb2 : b.toNat < 48 ∨ 57 < b.toNat := by
              unfold dgB at hb
              rw [decide_eq_true_eq] at hb
              omega
            clear hb
            rcases hb2 with hb2 | hb2
            · have hb3 : (b.toNat : Int) < 48 := by omega
              clear hb2
              go_wp2
              go_ret2
              rw [HB.out]
              exact ⟨rfl, rfl⟩
            · have hb3 : ¬ (b.toNat : Int) < 48 := by omega
              have hb4 : (57 : Int) < (b.toNat : Int) := by omega
              clear hb2
              go_wp2
              go_ret2
              rw [HB.out]
              exact ⟨rfl, rfl⟩
          case pos =>
            have hb2 : 48 ≤ (d.getD i 0).toNat ∧ (d.getD i 0).toNat ≤ 57 := by
              unfold dgB at hb
              rwa [decide_eq_true_eq] at hb
            have HI2 := Lib.hid (show (d.take (i + 1)).all dgB = true ∧ Lib.decFrom 0 (d.take (i + 1)) = some (10 * n + ((d.getD i 0).toNat - 48)) from ⟨all_take HI.out.1 hlt hb, from_take HI.out.2 hlt hb⟩)
            clear hb HI
            generalize d.getD i 0 = b at *
            obtain ⟨k, hk⟩ : ∃ k : Nat, b.toNat - 48 = k := ⟨_, rfl⟩
            rw [hk] at HI2
            have hk9 : k ≤ 9 := by omega
            have hb3 : ¬ (b.toNat : Int) < 48 := by omega
            have hb4 : ¬ (57 : Int) < (b.toNat : Int) := by omega
            have hwu : IntKind.u8.wrap ((b.toNat : Int) - 48) = (k : Int) := by
              have e : (b.toNat : Int) - 48 = (k : Int) := by omega
              rw [e]
              simp [IntKind.wrap, IntKind.bits, IntKind.signed]
              omega
            have hn2 : 10 * n + k < 10 ^ (i + 1) := by rw [Nat.pow_succ]; omega
            have HN2 := Lib.hid hn2
            clear hk hb2 hn2 hn HOK HBAD
            go_wp2
            refine ⟨⟨i + 1, 10 * n + k, by omega, HN2.out, by go_num, by go_num, HI2, by trivial⟩, ?_⟩
            simp only [intOf]
            omega
end Go.Proofs.YtegimepmccilfaaGreatDoor
namespace Go.Proofs.YtegimepmccilfaaGreatDoor
open Go.RowKit
set_option linter.unusedVariables false
set_option linter.unusedSimpArgs false
theorem ix_pos : ∀ {ls : List Tx} {y : Tx} {i : Nat}, ixR ls y = some i → 1 ≤ i
  | [], _, _, h => by cases h
  | l :: ls, y, i, h => by
    unfold ixR at h
    split at h
    · injection h with h
      omega
    · cases hx : ixR ls y with
      | none => rw [hx] at h; cases h
      | some j =>
        rw [hx] at h
        have h2 : some (j + 1) = some i := h
        injection h2 with h2
        omega
theorem kind_ixZ (y : Tx) : kindR y = if ixZ [stripsT, tubesT, filmT] y = 0 then none else some (ixZ [stripsT, tubesT, filmT] y : Int) := by
  rw [kind_ix]
  unfold ixZ
  cases h : ixR [stripsT, tubesT, filmT] y with
  | none => rfl
  | some i =>
    have := ix_pos h
    show some (i : Int) = if i = 0 then none else some (i : Int)
    rw [if_neg (by omega)]
theorem view_ixZ (y : Tx) : viewR y = if ixZ [viewxT, viewyT] y = 0 then none else some (ixZ [viewxT, viewyT] y : Int) := by
  rw [view_ix]
  unfold ixZ
  cases h : ixR [viewxT, viewyT] y with
  | none => rfl
  | some i =>
    have := ix_pos h
    show some (i : Int) = if i = 0 then none else some (i : Int)
    rw [if_neg (by omega)]
theorem line_short {ws : List Tx} (h : ws.length < 13) : lineR ws = none := by
  match ws, h with
  | [], _ => rfl
  | [_], _ => rfl
  | k :: v :: r, h =>
    simp only [lineR]
    cases kindR k with
    | none => rfl
    | some a =>
      cases viewR v with
      | none => rfl
      | some b =>
        simp only
        rw [if_neg (by simp at h; omega)]
theorem DrInv.zero {ws : List Tx} {k : Nat} {D : List DR} (h : DrInv ws (k + 1) 0 D) (hm : moreB ws k driftT = true) (he : ¬ k + 1 < ws.length ∨ ws.getD (k + 1) [] = deadT) : tailR (ws.drop k) = Option.none := by
  by_cases hk : k + 1 < ws.length
  · have hd : ws.getD (k + 1) [] = deadT := by
      rcases he with h1 | h1
      · exact absurd hk h1
      · exact h1
    exact h.fail hm hk (by rw [Nat.add_zero, hd]; exact dr_dead) (.inl rfl)
  · exact DrInv.none hm hk
theorem own_words {W : World} {base : Nat} {a : Option Addr} {c n : Nat} {ws : List Tx} (hn : ws.length = n) (h0 : 0 < n) (h : W.ownsRow base 9 1 (.slice a n c) n (strC ws)) : ∃ g cur, a = some ⟨g, 0, none⟩ ∧ base ≤ g ∧ n ≤ c ∧ W.heap[g]? = some (.cells cur 9) ∧ ∀ i, i < n → cur[i]? = some (Value.string ⟨(ws.getD i []).toArray⟩) := by
  rcases h.2 with ⟨_, h1⟩ | ⟨g, cap, cur, hv, hb, hg, hnc, hcm, hcs, htake⟩
  · omega
  · injection hv with e1 e2 e3
    refine ⟨g, cur, e1, hb, by omega, hg, fun i hi => ?_⟩
    have h2 : (cur.toList.take (n * 1))[i]? = (strC ws)[i]? := by rw [htake]
    rw [List.getElem?_take_of_lt (by omega)] at h2
    rw [← Array.getElem?_toList, h2]
    unfold strC
    rw [List.getElem?_map, List.getElem?_eq_getElem (by omega), List.getD_eq_getElem?_getD, List.getElem?_eq_getElem (by omega)]
    rfl
theorem own_nums {W : World} {base n : Nat} {a : Option Addr} {c : Nat} {f : Nat → Int} (h0 : 0 < n) (h : W.ownsRow base 3 1 (.slice a n c) n (iCells f n)) : ∃ g, a = some ⟨g, 0, none⟩ ∧ g < W.heap.size ∧ ∀ i, i < n → W.cell? ⟨g, i, none⟩ = some (.int .i64 (f i)) := by
  obtain ⟨_, hc⟩ := own_cells (iCells_len f) h
  rcases hc with h1 | ⟨b, ha, _, hb, hc⟩
  · omega
  · refine ⟨b, ha, hb, fun i hi => ?_⟩
    have := hc i hi 0 (by omega)
    rw [Nat.mul_one, Nat.zero_add, Nat.add_zero] at this
    exact this
/-- the words of a line, and the box of the result -/
structure R0 (w : World) (wb : Nat) (cur : Array Value) (W : World) : Prop where
  below : Below w.heap.size w W
  rbx : W.heap[w.heap.size]? = some (.cells (pcs 0 0 (fun _ => 0) nilV nilV) 42)
  words : W.heap[wb]? = some (.cells cur 9)
structure RS (w : World) (pb wb : Nat) (cur cells : Array Value) (W : World) : Prop extends R0 w wb cur W where
  p : W.heap[pb]? = some (.cells cells 42)
section
variable {w W W' : World} {pb wb : Nat} {cur cells : Array Value}
theorem R0.quiet (h : R0 w wb cur W) (hl : Below W.heap.size W W') : R0 w wb cur W' :=
  ⟨h.below.trans (hl.mono h.below.size), (hl.block _ (Array.getElem?_eq_some_iff.1 h.rbx).1).trans h.rbx, (hl.block _ (Array.getElem?_eq_some_iff.1 h.words).1).trans h.words⟩
theorem R0.word {ws : List Tx} {i : Nat} (h : R0 w wb cur W) (hc : ∀ i, i < ws.length → cur[i]? = some (Value.string ⟨(ws.getD i []).toArray⟩)) (hi : i < ws.length) : W.cell? ⟨wb, i, none⟩ = some (.string ⟨(ws.getD i []).toArray⟩) := (cell_of_row _ _ _ _ _ _ h.words).trans (hc i hi)
theorem RS.quiet (h : RS w pb wb cur cells W) (hl : Below W.heap.size W W') : RS w pb wb cur cells W' :=
  ⟨h.toR0.quiet hl, (hl.block _ (Array.getElem?_eq_some_iff.1 h.p).1).trans h.p⟩
theorem RS.put (h : RS w pb wb cur cells W) (h1 : w.heap.size ≤ pb) (h2 : w.heap.size ≠ pb) (j : Nat) (v : Value) {cells' : Array Value} (hc : cells.setIfInBounds j v = cells') : RS w pb wb cur cells' (W.setCell ⟨pb, j, none⟩ v) := by
  subst hc
  exact ⟨⟨h.below.setCell (p := ⟨pb, j, none⟩) h1 v, (Below.heap_setCell _ _ _ _ h2).trans h.rbx, (Below.heap_setCell _ _ _ _ (blk_ne h.words h.p (by decide))).trans h.words⟩, set_same _ _ _ _ _ _ _ h.p⟩
theorem RS.grown (h : RS w pb wb cur cells W) {e : TypeId} {s : Nat} {v : Value} {n : Nat} {xs : List Value} (ho : W.ownsRow w.heap.size e s v n xs) (hg : W.grownBy W' v.ownBlock) (he : e ≠ 9 ∧ e ≠ 42) : RS w pb wb cur cells W' :=
  ⟨⟨h.below.grown hg h.below.size (fun j hj => (ho.lt j hj).1), (hg.block _ (Array.getElem?_eq_some_iff.1 h.rbx).1 (Ne.symm (row_off ho h.rbx he.2))).trans h.rbx, (hg.block _ (Array.getElem?_eq_some_iff.1 h.words).1 (Ne.symm (row_off ho h.words he.1))).trans h.words⟩, (hg.block _ (Array.getElem?_eq_some_iff.1 h.p).1 (Ne.symm (row_off ho h.p he.2))).trans h.p⟩
theorem R0.grown (h : R0 w wb cur W) {e : TypeId} {s : Nat} {v : Value} {n : Nat} {xs : List Value} (ho : W.ownsRow w.heap.size e s v n xs) (hg : W.grownBy W' v.ownBlock) (he : e ≠ 9 ∧ e ≠ 42) : R0 w wb cur W' :=
  ⟨h.below.grown hg h.below.size (fun j hj => (ho.lt j hj).1), (hg.block _ (Array.getElem?_eq_some_iff.1 h.rbx).1 (Ne.symm (row_off ho h.rbx he.2))).trans h.rbx, (hg.block _ (Array.getElem?_eq_some_iff.1 h.words).1 (Ne.symm (row_off ho h.words he.1))).trans h.words⟩
end
/-- a new box -/
theorem oal_step {W : World} {G : World → Nat → Prop} (o : Obj) (h : ∀ Wn pb, Below W.heap.size W Wn → W.heap.size ≤ pb → Wn.heap[pb]? = some o → G Wn pb) : G (W.alloc o) W.heap.size := h _ _ (rd_below W o) (Nat.le_refl _) (al_new W o _ rfl)
def fillA : Array Value → Nat → List Value → Array Value
  | cs, _, [] => cs
  | cs, o, v :: r => fillA (cs.setIfInBounds o v) (o + 1) r
theorem fill_pcs (kd vw : Int) (f : Nat → Int) : fillA #[.int .i64 0, .int .i64 0, .int .i64 0, .int .i64 0, .int .i64 0, .int .i64 0, .int .i64 0, .int .i64 0, .int .i64 0, .int .i64 0, .int .i64 0, .int .i64 0, .int .i64 0, .slice none 0 0, .slice none 0 0] 0 [.int .i64 kd, .int .i64 vw, .int .i64 (f 0), .int .i64 (f 1), .int .i64 (f 2), .int .i64 (f 3), .int .i64 (f 4), .int .i64 (f 5), .int .i64 (f 6), .int .i64 (f 7), .int .i64 (f 8), .int .i64 (f 9), .int .i64 (f 10), .slice none 0 0, .slice none 0 0] = pcs kd vw f nilV nilV := by
  unfold pcs
  simp [fillA]
theorem heap_fill {b : Nat} {t : TypeId} {fz : Nat × Nat} : ∀ (vs : List Value) (o : Nat) (W : World) (cs : Array Value), W.heap[b]? = some (.cells cs t fz) → (W.setCells b o vs).heap[b]? = some (.cells (fillA cs o vs) t fz)
  | [], _, _, _, h => h
  | v :: r, o, W, cs, h => heap_fill r (o + 1) _ _ (set_same W b o cs t fz v h)
theorem heap_fill_other {b j : Nat} (hj : j ≠ b) : ∀ (vs : List Value) (o : Nat) (W : World), (W.setCells b o vs).heap[j]? = W.heap[j]?
  | [], _, _ => rfl
  | v :: r, o, W => (heap_fill_other hj r (o + 1) _).trans (Below.heap_setCell W ⟨b, o, none⟩ v j hj)
theorem numV_eq (x : Tx) : numV x = .tuple #[.int .i64 ((nmR x).getD 0), .bool (nmR x).isSome] := by
  unfold numV
  cases nmR x <;> rfl
theorem dr3_val (a b c : Tx) : drR3 [a, b, c] = if ((nmR a).isSome && ((nmR b).isSome && (nmR c).isSome)) = true then some ((nmR a).getD 0, (nmR b).getD 0, (nmR c).getD 0) else Option.none := by
  simp only [drR3]
  cases nmR a <;> cases nmR b <;> cases nmR c <;> rfl
/-- what readLine hands back -/
def RlRes (x : Tx) (w : World) (e : Ending) (w' : World) : Prop := Below w.heap.size w w' ∧ match lineR (spl 32 x) with
  | none => ∃ q : PR, e = .returned (.tuple #[q.plane, .bool false])
  | some pp => ∃ q : PR, e = .returned (.tuple #[q.plane, .bool true]) ∧ toPP q = pp ∧ PMem w.heap.size w' q
end Go.Proofs.YtegimepmccilfaaGreatDoor
