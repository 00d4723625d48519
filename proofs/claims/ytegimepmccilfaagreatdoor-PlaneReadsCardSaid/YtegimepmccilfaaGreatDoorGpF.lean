/- Texts put together: FpSame, PlSmall, LawPf, LawPr. -/
import Derived.Test.YtegimepmccilfaaGreatDoorPlSame
import Derived.Test.YtegimepmccilfaaGreatDoorGpD
import Derived.Test.YtegimepmccilfaaGreatDoorPlaneT
import Derived.Test.YtegimepmccilfaaGreatDoorGateData
import Derived.Test.YtegimepmccilfaaGreatDoorWide2
import Derived.Test.YtegimepmccilfaaGreatDoorPlPrint
import Derived.Test.YtegimepmccilfaaGreatDoorGpB
import Derived.Test.YtegimepmccilfaaGreatDoorKnown
import Derived.Test.YtegimepmccilfaaGreatDoorPlaneJ
import Derived.Test.YtegimepmccilfaaGreatDoorPrD
namespace Go.Proofs.YtegimepmccilfaaGreatDoor
open Go.RowKit
set_option linter.unusedVariables false
set_option linter.unusedSimpArgs false
structure WSame (p q : PR) : Prop where
  kind : p.kind = q.kind
  view : p.view = q.view
  z : p.z = q.z
  first : p.first = q.first
  pitch : p.pitch = q.pitch
  strips : p.strips = q.strips
  spill : p.spill = q.spill
  olo : p.olo = q.olo
  ohi : p.ohi = q.ohi
  clo : p.clo = q.clo
  chi : p.chi = q.chi
  jitter : p.jitter = q.jitter
  least : p.least = q.least
  dn : p.dn = q.dn
  en : p.en = q.en
  ds : ∀ i, i < p.dn → p.ds i = q.ds i
  es : ∀ i, i < p.en → p.es i = q.es i
theorem dr_eq {p q : PR} (h : drOf p = drOf q) : p.dn = q.dn ∧ ∀ i, i < p.dn → p.ds i = q.ds i := by
  have hn : p.dn = q.dn := by
    have := congrArg List.length h
    simpa [drOf] using this
  refine ⟨hn, fun i hi => ?_⟩
  have h1 : (drOf p)[i]? = (drOf q)[i]? := by rw [h]
  unfold drOf at h1
  rw [List.getElem?_map, List.getElem?_map, List.getElem?_range hi, List.getElem?_range (by omega)] at h1
  simp only [Option.map_some, Option.some.injEq, toDR, Prod.mk.injEq] at h1
  obtain ⟨a, b, c⟩ := h1
  cases hp : p.ds i
  cases hq : q.ds i
  rw [hp, hq] at a b c
  simp only at a b c
  subst a b c
  rfl
theorem de_eq {p q : PR} (h : deOf p = deOf q) : p.en = q.en ∧ ∀ i, i < p.en → p.es i = q.es i := by
  have hn : p.en = q.en := by
    have := congrArg List.length h
    simpa [deOf] using this
  refine ⟨hn, fun i hi => ?_⟩
  have h1 : (deOf p)[i]? = (deOf q)[i]? := by rw [h]
  unfold deOf at h1
  rw [List.getElem?_map, List.getElem?_map, List.getElem?_range hi, List.getElem?_range (by omega)] at h1
  simpa using h1
theorem pp_same {p q : PR} (h : toPP p = toPP q) : WSame p q := by
  unfold toPP at h
  injection h with h1 h2 h3 h4 h5
  unfold nsOf at h3
  simp only [List.cons.injEq, and_true] at h3
  obtain ⟨a1, a2, a3, a4, a5, a6, a7, a8, a9, a10, a11⟩ := h3
  obtain ⟨b1, b2⟩ := dr_eq h4
  obtain ⟨c1, c2⟩ := de_eq h5
  exact ⟨h1, h2, a1, a2, a3, a4, a5, a6, a7, a8, a9, a10, a11, b1, c1, b2, c2⟩
theorem upto_same {f g : Nat → Bool} : ∀ {n : Nat}, (∀ i, i < n → f i = g i) → allUpto n f = allUpto n g := by
  intro n h
  rw [Bool.eq_iff_iff, allUpto_iff, allUpto_iff]
  exact ⟨fun k i hi => (h i hi) ▸ k i hi, fun k i hi => (h i hi).symm ▸ k i hi⟩
theorem proper_same {p q : PR} (h : WSame p q) : properB p = properB q := by
  have e1 : shapedB p = shapedB q := by
    unfold shapedB shapedPre
    rw [h.view, h.z, h.first, h.pitch, h.strips, h.spill, h.olo, h.ohi, h.clo, h.chi, h.jitter, h.least]
  have e2 : kindB p = kindB q := by
    unfold kindB
    rw [h.kind, h.dn]
    split
    · unfold tubesB
      rw [h.pitch]
      congr 1
      refine upto_same fun i hi => ?_
      have hi' : i < p.dn := by rw [h.dn]; exact hi
      unfold stepAt
      rw [h.ds i hi']
      by_cases h0 : i = 0
      · subst h0; rfl
      · rw [h.ds (i - 1) (by omega)]
    · rfl
  have e3 : deadsB p = deadsB q := by
    unfold deadsB
    rw [h.strips, h.en]
    congr 1
    refine upto_same fun i hi => ?_
    have hi' : i < p.en := by rw [h.en]; exact hi
    unfold deadAt
    rw [h.es i hi']
    by_cases h0 : i = 0
    · subst h0; rfl
    · rw [h.es (i - 1) (by omega)]
  unfold properB
  rw [h.kind, e1, e2, e3]
theorem check_same {n : Nat} {ps qs : Nat → PR} (h : ∀ i, i < n → WSame (ps i) (qs i)) : checkB n ps = checkB n qs := by
  unfold checkB
  congr 1
  refine upto_same fun i hi => ?_
  unfold planeAt
  rw [proper_same (h i hi)]
  congr 1
  by_cases h0 : i = 0
  · subst h0; rfl
  · have h1 := (h i hi).z
    have h2 := (h (i - 1) (by omega)).z
    rw [h1, h2]
theorem pps_same {n m : Nat} {ps qs : Nat → PR} (h : ppsOf n ps = ppsOf m qs) : n = m ∧ ∀ i, i < n → WSame (ps i) (qs i) := by
  have hn : n = m := by
    have := congrArg List.length h
    simpa [ppsOf] using this
  refine ⟨hn, fun i hi => pp_same ?_⟩
  have h1 : (ppsOf n ps)[i]? = (ppsOf m qs)[i]? := by rw [h]
  unfold ppsOf at h1
  rw [List.getElem?_map, List.getElem?_map, List.getElem?_range hi, List.getElem?_range (by omega)] at h1
  simpa using h1
theorem WSame.symm {p q : PR} (h : WSame p q) : WSame q p := ⟨h.kind.symm, h.view.symm, h.z.symm, h.first.symm, h.pitch.symm, h.strips.symm, h.spill.symm, h.olo.symm, h.ohi.symm, h.clo.symm, h.chi.symm, h.jitter.symm, h.least.symm, h.dn.symm, h.en.symm, fun i hi => (h.ds i (by rw [h.dn]; exact hi)).symm, fun i hi => (h.es i (by rw [h.en]; exact hi)).symm⟩
/-- the second with the first one's rows -/
def PR.as (q p : PR) : PR := { q with ds := p.ds, es := p.es }
theorem WSame.as {p q : PR} (h : WSame p q) : PSame p (q.as p) := ⟨h.kind, h.view, h.z, h.first, h.pitch, h.strips, h.spill, h.olo, h.ohi, h.clo, h.chi, h.jitter, h.least, h.dn, h.en, rfl, rfl⟩
theorem WSame.mem {p q : PR} (h : WSame p q) {B : Nat} {w : World} (hm : q.mem B w) : (q.as p).mem B w := ⟨hm.1, hm.2.1, hm.2.2.1.congr (fun i hi => (h.ds i (by rw [h.dn]; exact hi)).symm), hm.2.2.2.congr (fun i hi => (h.es i (by rw [h.en]; exact hi)).symm)⟩
theorem planes_as {B : Nat} {w : World} {a : Option Addr} {n : Nat} {ps qs : Nat → PR} (h : Planes B w a n qs) (hs : ∀ i, i < n → WSame (ps i) (qs i)) : Planes B w a n (fun i => (qs i).as (ps i)) := by
  refine ⟨h.1, ?_⟩
  rcases h.2 with h | ⟨b, off, ha, hB, hc⟩
  · exact .inl h
  · exact .inr ⟨b, off, ha, hB, fun i hi => ⟨(hc i hi).1, (hs i hi).mem (hc i hi).2⟩⟩
theorem same_any (a b : Option Addr) (n c d : Nat) (ps qs : Nat → PR) (w : World) (B : Nat) (hBw : B ≤ w.heap.size) (hP : Planes B w a n ps) (hQ : Planes B w b n qs) (hE : ∀ i, i < n → WSame (ps i) (qs i)) :
    Calls Tryz.prog 11 #[setupV a n c, setupV b n d] w fun e w' => e = .returned (.bool true) ∧ Below w.heap.size w w' :=
  SameSetup_same a b n c d ps (fun i => (qs i).as (ps i)) w B hBw hP (planes_as hQ hE) (fun i hi => (hE i hi).as)
end Go.Proofs.YtegimepmccilfaaGreatDoor
namespace Go.Proofs.YtegimepmccilfaaGreatDoor
open Go.RowKit
set_option linter.unusedVariables false
set_option linter.unusedSimpArgs false
def smallAt (ps : Nat → PR) (j : Nat) : Bool := decide ((ps j).dn ≤ 60) && decide ((ps j).en ≤ 110)
def smallB (n : Nat) (ps : Nat → PR) : Bool := allUpto n (smallAt ps) && decide (n ≤ 20)
theorem smallB_end {n k : Nat} {ps : Nat → PR} (hk : k = n) (h : ∀ j, j < k → smallAt ps j = true) : decide ((n : Int) ≤ 20) = smallB n ps := by
  subst hk; rw [smallB, allUpto_true h, Bool.true_and]; rw [Bool.eq_iff_iff]; simp; omega
set_option maxRecDepth 100000 in
set_option maxHeartbeats 1000000 in
theorem small_any (a : Option Addr) (n c : Nat) (ps : Nat → PR) (w : World) (B : Nat) (hBw : B ≤ w.heap.size) (hP : Planes B w a n ps) :
    Calls Tryz.prog 5 #[setupV a n c] w fun e w' => e = .returned (.bool (smallB n ps)) ∧ Below w.heap.size w w' := by
  obtain ⟨hn, hP⟩ := hP
  unfold maxLen at hn
  have HP := Lib.hid hP
  clear hP
  go_enter Tryz.func5, Tryz.ntmps5
  go_wp2
  go_loop [3] (fun t => ∃ k : Nat, k ≤ n ∧ t = .int .i64 k ∧ ∀ j, j < k → smallAt ps j = true) (fun t => n - (intOf t).toNat)
  case atStart => exact ⟨0, Nat.zero_le _, rfl, fun j h => by omega⟩
  case round =>
    obtain ⟨k, hk, rfl, hall⟩ := hrel
    have HALL := Lib.hid hall
    clear hall
    by_cases hlt : k < n
    · rcases HP.out with hd | ⟨b, off, rfl, hbs, hcell⟩
      · omega
      obtain ⟨⟨_, _, _, _, _, _, _, _, _, _, _, _, _, c13, c14⟩, hm1, hm2, _, _⟩ := hcell k hlt
      unfold maxLen at hm1 hm2
      have hbz0 : b < w.heap.size := by omega
      clear hcell
      by_cases h1 : (ps k).dn ≤ 60
      · have h1' : ¬ (60 : Int) < (ps k).dn := by omega
        by_cases h2 : (ps k).en ≤ 110
        · have h2' : ¬ (110 : Int) < (ps k).en := by omega
          have HOK := Lib.hid (show smallAt ps k = true by simp [smallAt, h1, h2])
          go_wp2
          go_round
          case rel => exact ⟨k + 1, by omega, by go_num, fun j hj => by (by_cases e : j = k; subst e; exact HOK.out; exact HALL.out j (by omega))⟩
          case measure => simp [intOf]; omega
        · have h2' : (110 : Int) < (ps k).en := by omega
          have HF := Lib.hid (show false = smallB n ps by rw [smallB, allUpto_false hlt (by simp [smallAt, h2]), Bool.false_and])
          go_wp2
          go_ret
          exact ⟨ret_bool HF.out, (Below.refl _ _).alloc (Nat.le_refl _) _⟩
      · have h1' : (60 : Int) < (ps k).dn := by omega
        have HF := Lib.hid (show false = smallB n ps by rw [smallB, allUpto_false hlt (by simp [smallAt, h1]), Bool.false_and])
        go_wp2
        go_ret
        exact ⟨ret_bool HF.out, (Below.refl _ _).alloc (Nat.le_refl _) _⟩
    · go_wp2
      go_ret
      exact ⟨ret_bool (smallB_end (by omega) HALL.out), (Below.refl _ _).alloc (Nat.le_refl _) _⟩
end Go.Proofs.YtegimepmccilfaaGreatDoor
namespace Go.Proofs.YtegimepmccilfaaGreatDoor
open Go.RowKit
set_option linter.unusedVariables false
set_option linter.unusedSimpArgs false
/-- the statement's box -/
abbrev FB (a : Option Addr) (n c : Nat) (w W : World) : Prop := W.cell? ⟨w.heap.size, 0, none⟩ = some (.slice a n c) ∧ w.heap.size < W.heap.size ∧ Below w.heap.size w W
theorem FB.step {a : Option Addr} {n c : Nat} {w W W' : World} (h : FB a n c w W) (hb : Below W.heap.size W W') : FB a n c w W' := ⟨((bcell hb).1 _ _ h.2.1).trans h.1, Nat.lt_of_lt_of_le h.2.1 hb.size, h.2.2.trans (hb.mono h.2.2.size)⟩
theorem FB.start {a : Option Addr} {n c : Nat} {w : World} {t : TypeId} : FB a n c w (w.alloc (.cells #[.slice a n c] t)) := ⟨cell_of_row _ _ 0 _ _ _ (al_new w _ _ rfl), by simp, rd_below w _⟩
/-- what Read gives of a file that was printed -/
theorem read_back {n : Nat} {ps : Nat → PR} (hC : checkB n ps = true) (w : World) (hm : HasMax w) : Calls Tryz.prog 10 #[.string ⟨(filT (ppsOf n ps)).toArray⟩] w fun e w' => (∃ (a : Option Addr) (c : Nat) (L : List PR), L.length = n ∧ e = .returned (.tuple #[.agg #[.slice a L.length c], .int .i64 0]) ∧ OPl w.heap.size w' a c L ∧ ∀ i, i < n → WSame (ps i) (qF L i)) ∧ Below w.heap.size w w' := by
  have hl := filT_len hC
  have hf := fil_T (check_oks hC) (by have := (check_ppb hC).1; simp [ppsOf]; omega)
  refine (plRead_any _ (by unfold maxLen; omega) w hm).mono fun e w' hr => ?_
  obtain ⟨hb, hr2⟩ := hr
  rcases hr2 with ⟨h1, _⟩ | ⟨_, h2, _⟩ | ⟨_, a, c, L, h2, hk⟩
  · omega
  · rw [hf] at h2
    cases h2
  · rw [hf] at h2
    injection h2 with h2
    rw [← pps_list] at h2
    obtain ⟨hn, hs⟩ := pps_same h2
    rw [← hn] at hk
    rcases hk with ⟨hk, _⟩ | ⟨_, he, hp⟩
    · rw [check_same hs] at hC
      rw [hC] at hk
      cases hk
    · exact ⟨⟨a, c, L, hn.symm, by rw [← hn]; exact he, hp, hs⟩, hb⟩
set_option maxRecDepth 100000 in
set_option maxHeartbeats 2000000 in
theorem PlaneFiles_any (a : Option Addr) (n c : Nat) (ps : Nat → PR) (w : World) (B : Nat) (hBw : B ≤ w.heap.size) (hP : Planes B w a n ps) (htab : Lib.TabIs Tryz.prog w "internal/strconv.uint64pow10" .u64 Lib.pow10Tab) (hm : HasMax w) :
    Calls Tryz.prog 3 #[setupV a n c] w fun e w' => e = .returned (.bool true) ∧ Below w.heap.size w w' := by
  have HTB := Lib.hid (Lib.tabBelow_of_tabIs htab)
  have HP := Lib.hid (fun (W : World) (hb : Below w.heap.size w W) => hP.below (hb.mono hBw))
  have HPR := Lib.hid (fun (W : World) (hb : Below w.heap.size w W) => plPrint_any a n c ps W B (Nat.le_trans hBw hb.size) (HP.out W hb) (HTB.out.on hb).here)
  have HST := Lib.hid (fun (W : World) (hb : Below w.heap.size w W) => refSetup_any a n c ps W B (Nat.le_trans hBw hb.size) (HP.out W hb))
  have HMX := Lib.hid (fun (W : World) (hb : Below w.heap.size w W) => hm.below hm.pos hb)
  clear hP htab hm HTB
  have HF := Lib.hid (FB.start (a := a) (n := n) (c := c) (w := w) (t := 24))
  have l0 := HF.out.1
  cases hs : smallB n ps with
  | false =>
    go_enter Tryz.func3, Tryz.ntmps3
    go_wp2_with (first | (go_at_call 5; refine (small_any a n c ps _ B (Nat.le_trans hBw HF.out.2.2.size) (HP.out _ HF.out.2.2)).mono ?_; rintro e wy ⟨rfl, hby⟩; rw [hs]; (have HFn := Lib.hid (HF.out.step hby); clear HF; have HF := HFn; clear HFn hby; try clear l0; have l0 := HF.out.1)) | (go_at_call 6; refine (lawKnown_any _).mono ?_; rintro e wy ⟨rfl, hby⟩; (have HFn := Lib.hid (HF.out.step hby); clear HF; have HF := HFn; clear HFn hby; try clear l0; have l0 := HF.out.1)))
    go_ret
    exact ⟨rfl, HF.out.2.2⟩
  | true =>
    cases hC : checkB n ps with
    | false =>
      have e1 : prT n ps = [] := by unfold prT; rw [hC]; rfl
      have e2 : prE n ps = 2 := by unfold prE; rw [hC]; rfl
      rw [e1, e2] at HPR
      rw [hC] at HST
      clear e1 e2
      go_enter Tryz.func3, Tryz.ntmps3
      go_wp2_with (first | (go_at_call 5; refine (small_any a n c ps _ B (Nat.le_trans hBw HF.out.2.2.size) (HP.out _ HF.out.2.2)).mono ?_; rintro e wy ⟨rfl, hby⟩; rw [hs]; (have HFn := Lib.hid (HF.out.step hby); clear HF; have HF := HFn; clear HFn hby; try clear l0; have l0 := HF.out.1)) | (go_at_call 6; refine (lawKnown_any _).mono ?_; rintro e wy ⟨rfl, hby⟩; (have HFn := Lib.hid (HF.out.step hby); clear HF; have HF := HFn; clear HFn hby; try clear l0; have l0 := HF.out.1)) | (go_at_call 7; refine (HPR.out _ HF.out.2.2).mono ?_; rintro e wy ⟨rfl, hby⟩; (have HFn := Lib.hid (HF.out.step hby); clear HF; have HF := HFn; clear HFn hby; try clear l0; have l0 := HF.out.1)) | (go_at_call 8; refine (HST.out _ HF.out.2.2).mono ?_; rintro e wy ⟨rfl, hby⟩; (have HFn := Lib.hid (HF.out.step hby); clear HF; have HF := HFn; clear HFn hby; try clear l0; have l0 := HF.out.1)))
      go_ret
      exact ⟨rfl, HF.out.2.2⟩
    | true =>
      have e1 : prT n ps = filT (ppsOf n ps) := by unfold prT; rw [hC]; rfl
      have e2 : prE n ps = 0 := by unfold prE; rw [hC]; rfl
      rw [e1, e2] at HPR
      rw [hC] at HST
      have HRP := Lib.hid (fun (W : World) (hb : Below w.heap.size w W) => r1Print_any a n c ps W B (Nat.le_trans hBw hb.size) (HP.out W hb) hC)
      have HRD := Lib.hid (fun (W : World) (hb : Below w.heap.size w W) => read_back hC W (HMX.out W hb))
      clear e1 e2 hC HMX
      generalize filT (ppsOf n ps) = T at *
      have HSB := Lib.hid hBw
      go_enter Tryz.func3, Tryz.ntmps3
      go_upto_region 9 with (first | (go_at_call 5; refine (small_any a n c ps _ B (Nat.le_trans hBw HF.out.2.2.size) (HP.out _ HF.out.2.2)).mono ?_; rintro e wy ⟨rfl, hby⟩; rw [hs]; (have HFn := Lib.hid (HF.out.step hby); clear HF; have HF := HFn; clear HFn hby; try clear l0; have l0 := HF.out.1)) | (go_at_call 7; refine (HPR.out _ HF.out.2.2).mono ?_; rintro e wy ⟨rfl, hby⟩; (have HFn := Lib.hid (HF.out.step hby); clear HF; have HF := HFn; clear HFn hby; try clear l0; have l0 := HF.out.1)) | (go_at_call 8; refine (HST.out _ HF.out.2.2).mono ?_; rintro e wy ⟨rfl, hby⟩; (have HFn := Lib.hid (HF.out.step hby); clear HF; have HF := HFn; clear HFn hby; try clear l0; have l0 := HF.out.1)) | (go_at_call 9; refine (HRP.out _ HF.out.2.2).mono ?_; rintro e wy ⟨rfl, hby⟩; (have HFn := Lib.hid (HF.out.step hby); clear HF; have HF := HFn; clear HFn hby; try clear l0; have l0 := HF.out.1)) | (go_at_call 10; refine (HRD.out _ HF.out.2.2).mono ?_; rintro e wy ⟨⟨ra, rc, L, hL, rfl, hop, hsm⟩, hby⟩; have HWR := Lib.hid HF.out.2.2.size; (have HFn := Lib.hid (HF.out.step hby); clear HF; have HF := HFn; clear HFn hby; try clear l0; have l0 := HF.out.1)))
      have hbv := rd_below wy (.cells #[.slice ra n rc] 24)
      have HPX := Lib.hid (show Planes (World.alloc wy (.cells #[.slice ra n rc] 24)).heap.size (World.alloc wy (.cells #[.slice ra n rc] 24)) ra n (qF L) from by
        rw [← hL]
        exact (hop.below (by rw [hL]; exact hbv)).planes)
      have hby := hbv
      (have HFn := Lib.hid (HF.out.step hby); clear HF; have HF := HFn; clear HFn hby; try clear l0; have l0 := HF.out.1)
      have l1 : (World.alloc wy (.cells #[.slice ra n rc] 24)).cell? ⟨wy.heap.size, 0, none⟩ = some (.slice ra n rc) := cell_of_row _ _ 0 _ _ _ (al_new wy _ _ rfl)
      have HSM := Lib.hid (fun (i : Nat) (hi : i < n) => (hsm i hi).symm)
      have HPS := Lib.hid ((HP.out _ HF.out.2.2).up (Nat.le_trans HSB.out HF.out.2.2.size))
      clear hop hsm hbv hL
      generalize World.alloc wy _ = V at *
      generalize wy.heap.size = xb at *
      have HSS := Lib.hid (same_any ra a n rc c (qF L) ps V V.heap.size (Nat.le_refl _) HPX.out HPS.out HSM.out)
      clear HPX HPS HSM
      go_wp2_with (first | (go_at_call 11; refine HSS.out.mono ?_; rintro e wy ⟨rfl, hby⟩; (have HFn := Lib.hid (HF.out.step hby); clear HF; have HF := HFn; clear HFn hby; try clear l0; have l0 := HF.out.1)) | (go_at_call 6; refine (lawKnown_any _).mono ?_; rintro e wy ⟨rfl, hby⟩; (have HFn := Lib.hid (HF.out.step hby); clear HF; have HF := HFn; clear HFn hby; try clear l0; have l0 := HF.out.1)))
      go_ret
      exact ⟨rfl, HF.out.2.2⟩
end Go.Proofs.YtegimepmccilfaaGreatDoor
namespace Go.Proofs.YtegimepmccilfaaGreatDoor
open Go.RowKit
set_option linter.unusedVariables false
set_option linter.unusedSimpArgs false
/-- both readers give no setup, by the same error -/
theorem WSame.trans {p q r : PR} (h : WSame p q) (k : WSame q r) : WSame p r := ⟨h.kind.trans k.kind, h.view.trans k.view, h.z.trans k.z, h.first.trans k.first, h.pitch.trans k.pitch, h.strips.trans k.strips, h.spill.trans k.spill, h.olo.trans k.olo, h.ohi.trans k.ohi, h.clo.trans k.clo, h.chi.trans k.chi, h.jitter.trans k.jitter, h.least.trans k.least, h.dn.trans k.dn, h.en.trans k.en, fun i hi => (h.ds i hi).trans (k.ds i (by rw [← h.dn]; exact hi)), fun i hi => (h.es i hi).trans (k.es i (by rw [← h.en]; exact hi))⟩
def BothNo (x : Tx) (E : Int) : Prop := E ≠ 0 ∧ ∀ (w : World) (e : Ending) (w' : World), RdRes x w e w' → e = .returned (.tuple #[.agg #[.slice none 0 0], .int .i64 E]) ∧ Below w.heap.size w w'
/-- both readers give the planes that are written in the file -/
def BothYes (x : Tx) (n : Nat) (ps : Nat → PR) : Prop := prT n ps = x ∧ prE n ps = 0 ∧ ∀ (w : World) (e : Ending) (w' : World), RdRes x w e w' → (∃ (a : Option Addr) (c : Nat) (L : List PR), L.length = n ∧ e = .returned (.tuple #[.agg #[.slice a L.length c], .int .i64 0]) ∧ OPl w.heap.size w' a c L ∧ ∀ i, i < n → WSame (ps i) (qF L i)) ∧ Below w.heap.size w w'
theorem wsame_refl (p : PR) : WSame p p := ⟨rfl, rfl, rfl, rfl, rfl, rfl, rfl, rfl, rfl, rfl, rfl, rfl, rfl, rfl, rfl, fun _ _ => rfl, fun _ _ => rfl⟩
theorem list_same {L M : List PR} (h : L.map toPP = M.map toPP) : L.length = M.length ∧ ∀ i, i < L.length → WSame (qF L i) (qF M i) := by
  rw [← pps_list, ← pps_list] at h
  exact pps_same h
theorem both_cases (x : Tx) (L0 : List PR) (h0 : ∀ pps, filR x = some pps → L0.map toPP = pps) : (∃ E, BothNo x E) ∨ BothYes x L0.length (qF L0) := by
  by_cases hl : 50000 < x.length
  · left
    refine ⟨3, by decide, fun w e w' hr => ?_⟩
    obtain ⟨hb, h | ⟨h1, _⟩ | ⟨h1, _⟩⟩ := hr
    · exact ⟨h.2, hb⟩
    · omega
    · omega
  cases hf : filR x with
  | none =>
    left
    refine ⟨4, by decide, fun w e w' hr => ?_⟩
    obtain ⟨hb, h | ⟨h1, _, h2⟩ | ⟨h1, a, c, L, h2, _⟩⟩ := hr
    · omega
    · exact ⟨h2, hb⟩
    · rw [hf] at h2
      cases h2
  | some pps =>
    have hL0 := h0 pps hf
    cases hk : checkB L0.length (qF L0) with
    | false =>
      left
      refine ⟨2, by decide, fun w e w' hr => ?_⟩
      obtain ⟨hb, h | ⟨h1, h2, _⟩ | ⟨h1, a, c, L, h2, h3⟩⟩ := hr
      · omega
      · rw [hf] at h2
        cases h2
      · rw [hf] at h2
        injection h2 with h2
        obtain ⟨hn, hs⟩ := list_same (L := L0) (M := L) (by rw [hL0, h2])
        rcases h3 with ⟨_, he⟩ | ⟨h4, _⟩
        · exact ⟨he, hb⟩
        · rw [← hn, ← check_same hs, hk] at h4
          cases h4
    | true =>
      right
      obtain ⟨hT, _⟩ := fil_R hf
      refine ⟨?_, ?_, fun w e w' hr => ?_⟩
      · unfold prT
        rw [if_pos hk, pps_list, hL0, hT]
      · unfold prE
        rw [if_pos hk]
      obtain ⟨hb, h | ⟨h1, h2, _⟩ | ⟨h1, a, c, L, h2, h3⟩⟩ := hr
      · omega
      · rw [hf] at h2
        cases h2
      · rw [hf] at h2
        injection h2 with h2
        obtain ⟨hn, hs⟩ := list_same (L := L0) (M := L) (by rw [hL0, h2])
        rcases h3 with ⟨h4, _⟩ | ⟨_, he, hp⟩
        · rw [← hn, ← check_same hs, hk] at h4
          cases h4
        · exact ⟨⟨a, c, L, hn.symm, he, hp, hs⟩, hb⟩
/-- planes as they are read, without memory -/
def prs (pps : List PP) : List PR := pps.map fun p => prOf p.kind p.view p.ns none 0 p.dr none 0 p.de
theorem prs_map {pps : List PP} (h : ∀ p ∈ pps, p.Ok) : (prs pps).map toPP = pps := by
  unfold prs
  rw [List.map_map]
  conv => rhs; rw [← List.map_id pps]
  refine List.map_congr_left fun p hp => ?_
  show toPP (prOf p.kind p.view p.ns none 0 p.dr none 0 p.de) = p
  rw [toPP_prOf (h p hp).len]
theorem both_any (x : Tx) : (∃ E, BothNo x E) ∨ ∃ n ps, BothYes x n ps := by
  cases hf : filR x with
  | none =>
    rcases both_cases x [] (fun pps hp => by rw [hf] at hp; cases hp) with h | h
    · exact .inl h
    · exact .inr ⟨_, _, h⟩
  | some pps =>
    rcases both_cases x (prs pps) (fun qs hp => by
      rw [hf] at hp
      injection hp with hp
      rw [← hp]
      exact prs_map (fil_R hf).2) with h | h
    · exact .inl h
    · exact .inr ⟨_, _, h⟩
theorem same_pp {p q : PR} (h : WSame p q) : toPP p = toPP q := by
  have e1 : nsOf p = nsOf q := by unfold nsOf; rw [h.z, h.first, h.pitch, h.strips, h.spill, h.olo, h.ohi, h.clo, h.chi, h.jitter, h.least]
  have e2 : drOf p = drOf q := by
    unfold drOf
    rw [← h.dn]
    exact List.map_congr_left fun i hi => by rw [h.ds i (by simpa using hi)]
  have e3 : deOf p = deOf q := by
    unfold deOf
    rw [← h.en]
    exact List.map_congr_left fun i hi => h.es i (by simpa using hi)
  unfold toPP
  rw [h.kind, h.view, e1, e2, e3]
theorem pps_eq {n : Nat} {ps qs : Nat → PR} (h : ∀ i, i < n → WSame (ps i) (qs i)) : ppsOf n qs = ppsOf n ps := by
  unfold ppsOf
  exact List.map_congr_left fun i hi => (same_pp (h i (by simpa using hi))).symm
theorem print_same {n : Nat} {ps qs : Nat → PR} (h : ∀ i, i < n → WSame (ps i) (qs i)) : prT n qs = prT n ps := by
  unfold prT
  rw [← check_same h, pps_eq h]
theorem error_same {n : Nat} {ps qs : Nat → PR} (h : ∀ i, i < n → WSame (ps i) (qs i)) : prE n qs = prE n ps := by
  unfold prE
  rw [← check_same h]
set_option maxRecDepth 100000 in
set_option maxHeartbeats 4000000 in
theorem PlaneReads_any (x : Tx) (hx : x.length ≤ maxLen) (w : World) (htab : Lib.TabIs Tryz.prog w "internal/strconv.uint64pow10" .u64 Lib.pow10Tab) (hm : HasMax w) :
    Calls Tryz.prog 4 #[.string ⟨x.toArray⟩] w fun e w' => e = .returned (.bool true) ∧ Below w.heap.size w w' := by
  have HB := Lib.hid (Below.refl w.heap.size w)
  have hsz : (⟨x.toArray⟩ : ByteArray).size = x.length := pl_size x
  have HTB := Lib.hid (Lib.tabBelow_of_tabIs htab)
  have HMX := Lib.hid (fun (W : World) (hb : Below w.heap.size w W) => hm.below hm.pos hb)
  have HX := Lib.hid hx
  have HRD := Lib.hid (fun (W : World) (hb : Below w.heap.size w W) => plRead_any x HX.out W (HMX.out W hb))
  have HRR := Lib.hid (fun (W : World) => rRead_any x HX.out W)
  have hxm : (x.length : Int) ≤ 9223372036854775807 := by unfold maxLen at hx; omega
  clear htab hm hx
  by_cases h1 : (1500 : Int) < (x.length : Int) ∧ (x.length : Int) ≤ 50000
  · obtain ⟨h1, h2⟩ := h1
    go_enter Tryz.func4, Tryz.ntmps4
    go_wp2_with (go_at_call 6; refine (lawKnown_any _).mono ?_; rintro e wy ⟨rfl, hby⟩; (have HBn := Lib.hid (HB.out.trans (hby.mono HB.out.size)); clear HB; have HB := HBn; clear HBn); clear hby)
    go_ret
    exact ⟨rfl, HB.out⟩
  by_cases h2 : (51000 : Int) < (x.length : Int)
  · have h3 : (1500 : Int) < (x.length : Int) := by omega
    have h4 : ¬ (x.length : Int) ≤ 50000 := by omega
    clear h1
    go_enter Tryz.func4, Tryz.ntmps4
    go_wp2_with (go_at_call 6; refine (lawKnown_any _).mono ?_; rintro e wy ⟨rfl, hby⟩; (have HBn := Lib.hid (HB.out.trans (hby.mono HB.out.size)); clear HB; have HB := HBn; clear HBn); clear hby)
    go_ret
    exact ⟨rfl, HB.out⟩
  have hgo : ∃ g : Bool, decide ((1500 : Int) < (x.length : Int)) = g ∧ (g = true → ¬ (x.length : Int) ≤ 50000) := ⟨_, rfl, fun h h5 => h1 ⟨of_decide_eq_true h, h5⟩⟩
  obtain ⟨g, hg, hg2⟩ := hgo
  clear h1
  rcases both_any x with ⟨E, hE0, hE⟩ | ⟨n, ps, hT, hP, hY⟩
  · have HRD2 := Lib.hid (fun (W : World) (hb : Below w.heap.size w W) => (HRD.out W hb).mono (fun e w' hr => hE W e w' hr))
    have HRR2 := Lib.hid (fun (W : World) => (HRR.out W).mono (fun e w' hr => hE W e w' hr))
    have hE' : (E != 0) = true := by rw [bne_iff_ne]; exact hE0
    have hEE : (E != E) = false := by simp
    clear HRD HRR hE hE0
    go_enter Tryz.func4, Tryz.ntmps4
    (go_upto_region 1 with (fail); go_cut [21] from 9 to 21 (fun s21 wx => s21 = .bool false ∧ w = wx); (case first => (cases g with | true => (have h5 : (1500 : Int) < (x.length : Int) := of_decide_eq_true hg; have h6 := hg2 rfl; clear hg hg2; go_wp2; go_meet; exact ⟨rfl, rfl⟩) | false => (have h5 : ¬ (1500 : Int) < (x.length : Int) := of_decide_eq_false hg; clear hg hg2; go_wp2; go_meet; exact ⟨rfl, rfl⟩))); obtain ⟨rfl, rfl⟩ := hcut; clear hg hg2 h2)
    go_upto_region 4 with (go_at_call 10; refine (HRD2.out _ HB.out).mono ?_; rintro e W1 ⟨rfl, hby⟩; (have HBn := Lib.hid (HB.out.trans (hby.mono HB.out.size)); clear HB; have HB := HBn; clear HBn); clear hby)
    have hby := rd_below W1 (.cells #[nilV] 24)
    (have HBn := Lib.hid (HB.out.trans (hby.mono HB.out.size)); clear HB; have HB := HBn; clear HBn)
    have HC1 := Lib.hid (al_new W1 (.cells #[nilV] 24) _ rfl)
    clear hby
    generalize World.alloc W1 _ = V1 at *
    generalize W1.heap.size = b1 at *
    go_upto_region 5 with (go_at_call 12; refine (HRR2.out _).mono ?_; rintro e W2 ⟨rfl, hby⟩; (have HBn := Lib.hid (HB.out.trans (hby.mono HB.out.size)); clear HB; have HB := HBn; clear HBn); have HC2 := Lib.hid ((hby.block _ (Array.getElem?_eq_some_iff.1 HC1.out).1).trans HC1.out); clear hby)
    have hby := rd_below W2 (.cells #[nilV] 24)
    (have HBn := Lib.hid (HB.out.trans (hby.mono HB.out.size)); clear HB; have HB := HBn; clear HBn)
    have HC3 := Lib.hid (al_new W2 (.cells #[nilV] 24) _ rfl)
    have HC4 := Lib.hid (al_old (o := .cells #[nilV] 24) HC2.out)
    clear hby HC1 HC2
    generalize World.alloc W2 _ = V2 at *
    generalize W2.heap.size = b2 at *
    have c1 : V2.cell? ⟨b1, 0, none⟩ = some (.slice none 0 0) := cell_of_row _ _ 0 _ _ _ HC4.out
    have c2 : V2.cell? ⟨b2, 0, none⟩ = some (.slice none 0 0) := cell_of_row _ _ 0 _ _ _ HC3.out
    have HSS := Lib.hid (same_any none none 0 0 0 (fun _ => pr0) (fun _ => pr0) V2 V2.heap.size (Nat.le_refl _) ⟨Nat.zero_le _, .inl rfl⟩ ⟨Nat.zero_le _, .inl rfl⟩ (fun i hi => absurd hi (Nat.not_lt_zero _)))
    go_wp2_with (first | (go_at_call 11; refine HSS.out.mono ?_; rintro e wy ⟨rfl, hby⟩; (have HBn := Lib.hid (HB.out.trans (hby.mono HB.out.size)); clear HB; have HB := HBn; clear HBn); clear hby) | (go_at_call 6; refine (lawKnown_any _).mono ?_; rintro e wy ⟨rfl, hby⟩; (have HBn := Lib.hid (HB.out.trans (hby.mono HB.out.size)); clear HB; have HB := HBn; clear HBn); clear hby))
    go_ret
    exact ⟨rfl, HB.out⟩
  · have HRD2 := Lib.hid (fun (W : World) (hb : Below w.heap.size w W) => (HRD.out W hb).mono (fun e w' hr => hY W e w' hr))
    have HRR2 := Lib.hid (fun (W : World) => (HRR.out W).mono (fun e w' hr => hY W e w' hr))
    have HTT := Lib.hid hT
    have HPP := Lib.hid hP
    clear HRD HRR hY hT hP
    go_enter Tryz.func4, Tryz.ntmps4
    (go_upto_region 1 with (fail); go_cut [21] from 9 to 21 (fun s21 wx => s21 = .bool false ∧ w = wx); (case first => (cases g with | true => (have h5 : (1500 : Int) < (x.length : Int) := of_decide_eq_true hg; have h6 := hg2 rfl; clear hg hg2; go_wp2; go_meet; exact ⟨rfl, rfl⟩) | false => (have h5 : ¬ (1500 : Int) < (x.length : Int) := of_decide_eq_false hg; clear hg hg2; go_wp2; go_meet; exact ⟨rfl, rfl⟩))); obtain ⟨rfl, rfl⟩ := hcut; clear hg hg2 h2)
    go_upto_region 4 with (go_at_call 10; refine (HRD2.out _ HB.out).mono ?_; rintro e W1 ⟨⟨a1, k1, L1, hL1, rfl, ho1, hs1⟩, hby⟩; (have HBn := Lib.hid (HB.out.trans (hby.mono HB.out.size)); clear HB; have HB := HBn; clear HBn); clear hby)
    have hby := rd_below W1 (.cells #[.slice a1 n k1] 24)
    (have HBn := Lib.hid (HB.out.trans (hby.mono HB.out.size)); clear HB; have HB := HBn; clear HBn)
    have HC1 := Lib.hid (al_new W1 (.cells #[.slice a1 n k1] 24) _ rfl)
    have HO1 := Lib.hid (ho1.below (rd_below W1 (.cells #[.slice a1 n k1] 24)))
    have HL1 := Lib.hid hL1
    have HS1 := Lib.hid hs1
    clear hby hL1 ho1 hs1
    generalize World.alloc W1 _ = V1 at *
    generalize W1.heap.size = b1 at *
    go_upto_region 5 with (go_at_call 12; refine (HRR2.out _).mono ?_; rintro e W2 ⟨⟨a2, k2, L2, hL2, rfl, ho2, hs2⟩, hby⟩; (have HBn := Lib.hid (HB.out.trans (hby.mono HB.out.size)); clear HB; have HB := HBn; clear HBn); have HC2 := Lib.hid ((hby.block _ (Array.getElem?_eq_some_iff.1 HC1.out).1).trans HC1.out); have HO2 := Lib.hid (HO1.out.below hby); clear hby)
    have hby := rd_below W2 (.cells #[.slice a2 n k2] 24)
    (have HBn := Lib.hid (HB.out.trans (hby.mono HB.out.size)); clear HB; have HB := HBn; clear HBn)
    have HC3 := Lib.hid (al_new W2 (.cells #[.slice a2 n k2] 24) _ rfl)
    have HC4 := Lib.hid (al_old (o := .cells #[.slice a2 n k2] 24) HC2.out)
    have HO3 := Lib.hid (HO2.out.below (rd_below W2 (.cells #[.slice a2 n k2] 24)))
    have HO4 := Lib.hid (ho2.below (rd_below W2 (.cells #[.slice a2 n k2] 24)))
    have HL2 := Lib.hid hL2
    have HS2 := Lib.hid hs2
    clear hby HC1 HC2 HO1 HO2 ho2 hL2 hs2
    generalize World.alloc W2 _ = V2 at *
    generalize W2.heap.size = b2 at *
    have c1 : V2.cell? ⟨b1, 0, none⟩ = some (.slice a1 n k1) := cell_of_row _ _ 0 _ _ _ HC4.out
    have c2 : V2.cell? ⟨b2, 0, none⟩ = some (.slice a2 n k2) := cell_of_row _ _ 0 _ _ _ HC3.out
    have lb1 := (Array.getElem?_eq_some_iff.1 HC4.out).1
    have HP1 := Lib.hid (show Planes V2.heap.size V2 a1 n (qF L1) from by rw [← HL1.out]; exact HO3.out.planes)
    have HP2 := Lib.hid (show Planes V2.heap.size V2 a2 n (qF L2) from by rw [← HL2.out]; exact HO4.out.planes)
    have HSS := Lib.hid (same_any a1 a2 n k1 k2 (qF L1) (qF L2) V2 V2.heap.size (Nat.le_refl _) HP1.out HP2.out (fun i hi => (HS1.out i hi).symm.trans (HS2.out i hi)))
    have HPR := Lib.hid (fun (W : World) (hb : Below V2.heap.size V2 W) (hw : Below w.heap.size w W) => show Calls Tryz.prog 7 #[setupV a1 n k1] W (fun e w' => e = .returned (.tuple #[.string ⟨x.toArray⟩, .int .i64 0]) ∧ Below W.heap.size W w') from by
      have h := plPrint_any a1 n k1 (qF L1) W V2.heap.size hb.size (HP1.out.below hb) (HTB.out.on hw).here
      rw [print_same HS1.out, HTT.out, error_same HS1.out, HPP.out] at h
      exact h)
    have HV := Lib.hid (Below.refl V2.heap.size V2)
    have HC1 := Lib.hid c1
    go_wp2_with (first | (go_at_call 11; refine HSS.out.mono ?_; rintro e wy ⟨rfl, hby⟩; ((have HBn := Lib.hid (HB.out.trans (hby.mono HB.out.size)); clear HB; have HB := HBn; clear HBn); have HVn := Lib.hid (HV.out.trans (hby.mono HV.out.size)); clear HV; have HV := HVn; clear HVn hby; (try clear c1); (try clear c2); have c1 := ((bcell HV.out).1 _ _ lb1).trans HC1.out)) | (go_at_call 7; refine (HPR.out _ HV.out HB.out).mono ?_; rintro e wy ⟨rfl, hby⟩; ((have HBn := Lib.hid (HB.out.trans (hby.mono HB.out.size)); clear HB; have HB := HBn; clear HBn); have HVn := Lib.hid (HV.out.trans (hby.mono HV.out.size)); clear HV; have HV := HVn; clear HVn hby; (try clear c1); (try clear c2); have c1 := ((bcell HV.out).1 _ _ lb1).trans HC1.out)) | (go_at_call 6; refine (lawKnown_any _).mono ?_; rintro e wy ⟨rfl, hby⟩; (have HBn := Lib.hid (HB.out.trans (hby.mono HB.out.size)); clear HB; have HB := HBn; clear HBn); clear hby))
    go_ret
    exact ⟨rfl, HB.out⟩
end Go.Proofs.YtegimepmccilfaaGreatDoor
