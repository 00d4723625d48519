/- The statement PlaneUnpacks: its walk. -/
import Derived.Test.YtgcepjminlapiaaFileLaw
import Derived.Test.YtgcepjminlapiaaPackM
import Derived.Test.YtgcepjminlapiaaKnown
import Derived.Test.YtgcepjminlapiaaOpenB
namespace Go.Proofs.Ytgcepjminlapiaa
open Go.RowKit
set_option linter.unusedVariables false
set_option linter.unusedSimpArgs false
/-! what was read is packed as it was -/
theorem hList_self (L : List HV) : hList (fun i => L.getD i hv0) L.length = L := by
  apply List.ext_getElem?
  intro i
  by_cases hi : i < L.length
  · simp [hList, hi]
  · simp [hList, hi]
theorem hit_six {l : List Nat} (hl : ∀ x ∈ l, x < 256) {last : Int} {k : Nat} {h : HV} {k' : Nat} (hh : hitP l last k = some (h, k')) : k + 6 ≤ k' ∧ k' ≤ l.length := by
  unfold hitP at hh
  simp only [Option.bind_eq_some_iff] at hh
  obtain ⟨⟨a, k1⟩, ha, ⟨b, k2⟩, hb, ⟨c, k3⟩, hc, ⟨d, k4⟩, hd, ⟨e, k5⟩, he, ⟨g, k6⟩, hg, hh⟩ := hh
  dsimp only at hb hc hd he hg hh
  injection hh with hh
  injection hh with hh hr
  subst hr
  have := tkP_fits hl ha
  have := tkP_fits hl hb
  have := tkP_fits hl hc
  have := tkP_fits hl hd
  have := tkP_fits hl he
  have := tkP_fits hl hg
  omega
theorem six_len {l : List Nat} (hl : ∀ x ∈ l, x < 256) : ∀ (m : Nat) (last : Int) (k : Nat) (L : List HV) (k' : Nat), hitsP l m last k = some (L, k') → k ≤ l.length → 6 * L.length + k ≤ k' ∧ k' ≤ l.length
  | 0, last, k, L, k', h, hk => by
    rw [hitsP] at h; injection h with h; injection h with h1 h2; subst h1; subst h2; simp; exact hk
  | m + 1, last, k, L, k', h, hk => by
    rw [hitsP] at h
    cases hh : hitP l last k with
    | none => rw [hh] at h; cases h
    | some q =>
      obtain ⟨hv, k1⟩ := q
      have hk1 := hit_six hl hh
      rw [hh] at h
      simp only [Option.bind_some] at h
      cases g : hitsP l m hv.time k1 with
      | none => rw [g] at h; cases h
      | some q =>
        obtain ⟨L2, k2⟩ := q
        rw [g] at h
        simp only [Option.bind_some] at h
        injection h with h; injection h with e1 e2; subst e1; subst e2
        have := six_len hl m hv.time k1 L2 k2 g hk1.2
        simp; omega
theorem unpL_six {l : List Nat} {L : List HV} (hl : ∀ x ∈ l, x < 256) (h4 : 4 ≤ l.length) (h : unpL l = some L) : 6 * L.length + 5 ≤ l.length := by
  cases h1 : tkP l 4 with
  | none => rw [unpL_none1 h1] at h; cases h
  | some q =>
    obtain ⟨m, k⟩ := q
    have hk := tkP_fits hl h1
    cases g : hitsP l m 0 k with
    | none => rw [unpL_none2 h1 g] at h; cases h
    | some q2 =>
      obtain ⟨L', k'⟩ := q2
      have hh := six_len hl m 0 k L' k' g hk.2.2
      rw [unpL_some h1 g] at h
      by_cases e : k' = l.length
      · rw [if_pos e] at h
        injection h with h
        subst h
        omega
      · rw [if_neg e] at h; cases h
theorem refile {n : Nat} {f : Nat → Nat} {l : List Nat} {L : List HV} (h7 : 7 ≤ n) (hl : l.length = n - 2) (hlf : ∀ i, i < n - 2 → l.getD i 0 = f i) (hby : ∀ x ∈ l, x < 256) (hh : headOk f n) (hu : unpL l = some L) :
    (fileN L.length (fun i => L.getD i hv0)).length = n ∧ ∀ i, i < n → (fileN L.length (fun i => L.getD i hv0)).getD i 0 = f i := by
  have hd := unpL_inv hby (by omega) hu
  obtain ⟨⟨g0, g1, g2, g3⟩, s0, s1⟩ := hh
  have hb : bodyN L.length (fun i => L.getD i hv0) L.length = l := by
    have e4 : l = l.take 4 ++ l.drop 4 := (List.take_append_drop 4 l).symm
    have et : l.take 4 = [79, 86, 69, 49] := by
      have e0 := hlf 0 (by omega)
      have e1 := hlf 1 (by omega)
      have e2 := hlf 2 (by omega)
      have e3 := hlf 3 (by omega)
      match l, hl with
      | a :: b :: c :: d :: t, _ =>
        simp at e0 e1 e2 e3
        simp [e0, e1, e2, e3, g0, g1, g2, g3]
      | [], h | [_], h | [_, _], h | [_, _, _], h => simp at h; omega
    rw [e4, et, hd]
    unfold bodyN
    rw [← packHs_N, hList_self, List.append_assoc]
  have hfl := file_len L.length (fun i => L.getD i hv0)
  have hck : chkL l = chkN f (n - 2) := by
    unfold chkL; rw [hl]; exact chkN_congr _ (fun i hi => hlf i hi)
  have hfe : fileN L.length (fun i => L.getD i hv0) = l ++ [chkL l / 256, chkL l % 256] := by rw [fileN, hb]
  rw [hfe]
  refine ⟨by simp; omega, fun i hi => ?_⟩
  by_cases h1 : i < n - 2
  · rw [List.getD_eq_getElem?_getD, List.getElem?_append_left (by omega), ← List.getD_eq_getElem?_getD]; exact hlf i h1
  · rw [List.getD_eq_getElem?_getD, List.getElem?_append_right (by omega), hl, hck]
    by_cases h2 : i = n - 2
    · subst h2; simp [s0]
    · have h3 : i = n - 1 := by omega
      subst h3
      have : n - 1 - (n - 2) = 1 := by omega
      rw [this]; simp [s1]
theorem packL_B {L : List HV} (h : packL L = true) : packB L.length (fun i => L.getD i hv0) = true := h
def bodyL (f : Nat → Nat) (n : Nat) : List Nat := (List.range (n - 2)).map f
theorem bodyL_len (f : Nat → Nat) (n : Nat) : (bodyL f n).length = n - 2 := by simp [bodyL]
theorem bodyL_get {f : Nat → Nat} {n : Nat} : ∀ i, i < n - 2 → (bodyL f n).getD i 0 = f i := fun i hi => by simp [bodyL, hi]
theorem bodyL_byte {f : Nat → Nat} {n : Nat} (hf : ∀ i, i < n → f i < 256) : ∀ x ∈ bodyL f n, x < 256 := by
  intro x hx
  simp [bodyL] at hx
  obtain ⟨i, hi, rfl⟩ := hx
  exact hf i (by omega)
set_option maxRecDepth 100000 in
set_option maxHeartbeats 1000000 in
theorem PUn_out (a : Option Addr) (n c : Nat) (w : World) (hm : n ≤ maxLen) (hU : (400 < n ∧ n ≤ 40000) ∨ 40100 < n) : Calls Try.prog 11 #[.slice a n c] w fun e w' => e = .returned (.bool true) ∧ Below w.heap.size w w' := by
  unfold maxLen at hm
  by_cases h1 : 40100 < n
  · have h1' : (40100 : Int) < (n : Int) := by omega
    have h2' : ¬ (n : Int) ≤ 40000 := by omega
    have h3' : (400 : Int) < (n : Int) := by omega
    clear hU
    go_enter Try.func11, Try.ntmps11
    go_wp2_with (go_at_call 16; refine (lawKnown_any _).mono ?_; rintro e wk ⟨rfl, hbk⟩)
    go_ret
    exact ⟨rfl, hbk⟩
  · have h1' : ¬ (40100 : Int) < (n : Int) := by omega
    have h2' : (n : Int) ≤ 40000 := by omega
    have h3' : (400 : Int) < (n : Int) := by omega
    clear hU
    go_enter Try.func11, Try.ntmps11
    go_wp2_with (go_at_call 16; refine (lawKnown_any _).mono ?_; rintro e wk ⟨rfl, hbk⟩)
    go_ret
    exact ⟨rfl, hbk⟩
set_option maxRecDepth 100000 in
set_option maxHeartbeats 1000000 in
theorem PUn_err (a : Option Addr) (n c : Nat) (f : Nat → Nat) (w : World) (B : Nat) (hBw : B ≤ w.heap.size) (hB : Bytes B w a n f) (hf : ∀ i, i < n → f i < 256) (hnc : n ≤ c) (hcm : c ≤ maxLen) (h1 : n ≤ 400 ∨ (40000 < n ∧ n ≤ 40100)) (E : Int) (L : List HV) (hE : UnpackIs n f (bodyL f n) E L) (hL : L.length ≤ 1000) (h0 : ¬ E = 0) (hEb : 0 ≤ E ∧ E ≤ 10) : Calls Try.prog 11 #[.slice a n c] w fun e w' => e = .returned (.bool true) ∧ Below w.heap.size w w' := by
  (have hcm2 := hcm; unfold maxLen at hcm2; have HU := Lib.hid (fun (W : World) (hW : Below w.heap.size w W) => Unpack_any a n c f W w.heap.size hW.size ((hB.up hBw).below hW) hf hnc hcm (bodyL f n) (bodyL_len f n) bodyL_get E L hE); have HR := Lib.hid (fun (W : World) (hW : Below w.heap.size w W) => refUnpack_any a n c f W w.heap.size hW.size ((hB.up hBw).below hW) hf hnc hcm (bodyL f n) (bodyL_len f n) bodyL_get E L hE))
  have hLm : L.length ≤ maxLen := by unfold maxLen; omega
  have h0' : (E == 0) = false := by rw [beq_eq_false_iff_ne]; exact h0
  clear hE hB hf
  by_cases h2 : n ≤ 400
  · have h2' : ¬ (400 : Int) < (n : Int) := by omega
    have h3' : ¬ (40100 : Int) < (n : Int) := by omega
    clear h1
    go_enter Try.func11, Try.ntmps11
    go_wp2_with (first | (first | (go_at_call 41; refine (HU.out w (Below.refl _ _)).mono ?_; rintro e wy ⟨xa, xc, rfl, hown, hby⟩; have HO := Lib.hid hown; clear hown) | (go_at_call 43; refine (HR.out _ hby).mono ?_; rintro e wz ⟨ya, yc, rfl, hown, hbz⟩; have HX := Lib.hid (own_hits (own_below HO.out hbz) hLm).2.2; have HX0 := Lib.hid (own_below HO.out hbz); have HY := Lib.hid (own_hits hown hLm).2.2; have hbz2 : Below w.heap.size w wz := hby.trans (hbz.mono hby.size); clear hown HO hbz hby) | (go_at_call 42; refine (SameHits_same _ _ L.length _ _ (fun i => L.getD i hv0) _ wz.heap.size (Nat.le_refl _) HX.out HY.out).mono ?_; rintro e wt ⟨rfl, hbt⟩; have hbt2 : Below w.heap.size w wt := hbz2.trans (hbt.mono hbz2.size))) | (go_at_call 16; refine (lawKnown_any _).mono ?_; rintro e wk ⟨rfl, hbk⟩))
    go_ret
    exact ⟨rfl, hbt2.trans (hbk.mono hbt2.size)⟩
  · have h2' : ¬ (n : Int) ≤ 40000 := by omega
    have h3' : ¬ (40100 : Int) < (n : Int) := by omega
    have h4' : (400 : Int) < (n : Int) := by omega
    clear h1
    go_enter Try.func11, Try.ntmps11
    go_wp2_with (first | (first | (go_at_call 41; refine (HU.out w (Below.refl _ _)).mono ?_; rintro e wy ⟨xa, xc, rfl, hown, hby⟩; have HO := Lib.hid hown; clear hown) | (go_at_call 43; refine (HR.out _ hby).mono ?_; rintro e wz ⟨ya, yc, rfl, hown, hbz⟩; have HX := Lib.hid (own_hits (own_below HO.out hbz) hLm).2.2; have HX0 := Lib.hid (own_below HO.out hbz); have HY := Lib.hid (own_hits hown hLm).2.2; have hbz2 : Below w.heap.size w wz := hby.trans (hbz.mono hby.size); clear hown HO hbz hby) | (go_at_call 42; refine (SameHits_same _ _ L.length _ _ (fun i => L.getD i hv0) _ wz.heap.size (Nat.le_refl _) HX.out HY.out).mono ?_; rintro e wt ⟨rfl, hbt⟩; have hbt2 : Below w.heap.size w wt := hbz2.trans (hbt.mono hbz2.size))) | (go_at_call 16; refine (lawKnown_any _).mono ?_; rintro e wk ⟨rfl, hbk⟩))
    go_ret
    exact ⟨rfl, hbt2.trans (hbk.mono hbt2.size)⟩
set_option maxRecDepth 100000 in
set_option maxHeartbeats 1000000 in
theorem PUn_ok (a : Option Addr) (n c : Nat) (f : Nat → Nat) (w : World) (B : Nat) (hBw : B ≤ w.heap.size) (hB : Bytes B w a n f) (hf : ∀ i, i < n → f i < 256) (hnc : n ≤ c) (hcm : c ≤ maxLen) (h1 : n ≤ 400) (h7 : 7 ≤ n) (hh : headOk f n) (L : List HV) (hu : unpL (bodyL f n) = some L) (hp : packL L = true) : Calls Try.prog 11 #[.slice a n c] w fun e w' => e = .returned (.bool true) ∧ Below w.heap.size w w' := by
  have hE : UnpackIs n f (bodyL f n) 0 L := .inr (.inr (.inr ⟨by omega, h7, hh, .inr ⟨L, hu, .inr ⟨hp, rfl, rfl⟩⟩⟩))
  obtain ⟨E, hE0⟩ : ∃ E : Int, E = 0 := ⟨0, rfl⟩
  rw [← hE0] at hE
  (have hcm2 := hcm; unfold maxLen at hcm2; have HU := Lib.hid (fun (W : World) (hW : Below w.heap.size w W) => Unpack_any a n c f W w.heap.size hW.size ((hB.up hBw).below hW) hf hnc hcm (bodyL f n) (bodyL_len f n) bodyL_get E L hE); have HR := Lib.hid (fun (W : World) (hW : Below w.heap.size w W) => refUnpack_any a n c f W w.heap.size hW.size ((hB.up hBw).below hW) hf hnc hcm (bodyL f n) (bodyL_len f n) bodyL_get E L hE))
  subst hE0
  have hL6 := unpL_six (bodyL_byte hf) (by rw [bodyL_len]; omega) hu
  rw [bodyL_len] at hL6
  have hLm : L.length ≤ maxLen := by unfold maxLen; omega
  obtain ⟨hr1, hr2⟩ := refile h7 (bodyL_len f n) bodyL_get (bodyL_byte hf) hh hu
  have HPK := Lib.hid (fun (w1 : World) (xa : Option Addr) (xc : Nat) (h2 : Hits w1.heap.size w1 xa L.length (fun i => L.getD i hv0)) => Pack_ok xa L.length xc (fun i => L.getD i hv0) w1 w1.heap.size (Nat.le_refl _) h2 (by omega) (packL_B hp))
  have HB := Lib.hid (hB.up hBw)
  generalize fileN L.length (fun i => L.getD i hv0) = FN at *
  have HF2 := Lib.hid hr2
  have hnm : n ≤ maxLen := by omega
  clear hE hB hf hr2 hh
  have h2' : ¬ (400 : Int) < (n : Int) := by omega
  have h3' : ¬ (40100 : Int) < (n : Int) := by omega
  subst hr1
  have hFp : 0 < FN.length := by omega
  go_enter Try.func11, Try.ntmps11
  go_wp2_with (first | (first | (go_at_call 41; refine (HU.out w (Below.refl _ _)).mono ?_; rintro e wy ⟨xa, xc, rfl, hown, hby⟩; have HO := Lib.hid hown; clear hown) | (go_at_call 43; refine (HR.out _ hby).mono ?_; rintro e wz ⟨ya, yc, rfl, hown, hbz⟩; have HX := Lib.hid (own_hits (own_below HO.out hbz) hLm).2.2; have HX0 := Lib.hid (own_below HO.out hbz); have HY := Lib.hid (own_hits hown hLm).2.2; have hbz2 : Below w.heap.size w wz := hby.trans (hbz.mono hby.size); clear hown HO hbz hby) | (go_at_call 42; refine (SameHits_same _ _ L.length _ _ (fun i => L.getD i hv0) _ wz.heap.size (Nat.le_refl _) HX.out HY.out).mono ?_; rintro e wt ⟨rfl, hbt⟩; have hbt2 : Below w.heap.size w wt := hbz2.trans (hbt.mono hbz2.size))) | (go_at_call 37; refine (HPK.out _ _ _ (own_hits (own_below HX0.out hbt) hLm).2.2).mono ?_; rintro e wv ⟨za, zc, rfl, hown, hbv⟩; have HZ := Lib.hid ((own_bytes hown).2.2.congr HF2.out); have hbv2 : Below w.heap.size w wv := hbt2.trans (hbv.mono hbt2.size); clear hown) | (go_at_call 39; refine (SameBytes_same _ _ FN.length _ _ f _ wv.heap.size (Nat.le_refl _) HZ.out ((HB.out.below hbv2).up hbv2.size) hnm).mono ?_; rintro e wq ⟨rfl, hbq⟩; have hbq2 : Below w.heap.size w wq := hbv2.trans (hbq.mono hbv2.size)) | (go_at_call 16; refine (lawKnown_any _).mono ?_; rintro e wk ⟨rfl, hbk⟩))
  go_ret
  exact ⟨rfl, hbq2.trans (hbk.mono hbq2.size)⟩
theorem PlaneUnpacks_any (a : Option Addr) (n c : Nat) (f : Nat → Nat) (w : World) (B : Nat) (hBw : B ≤ w.heap.size) (h : Bytes B w a n f ∧ (∀ i, i < n → f i < 256) ∧ n ≤ c ∧ c ≤ maxLen) : Calls Try.prog 11 #[.slice a n c] w fun e w' => e = .returned (.bool true) ∧ Below w.heap.size w w' := by
  obtain ⟨hB, hf, hnc, hcm⟩ := h
  by_cases h1 : n ≤ 400
  · have H := fun E hE h0 hEb => PUn_err a n c f w B hBw hB hf hnc hcm (.inl h1) E [] hE (by simp) h0 hEb
    by_cases h7 : n < 7
    · exact H 4 (.inr (.inl ⟨by omega, h7, rfl, rfl⟩)) (by decide) (by decide)
    · by_cases hh : headOk f n
      · cases hu : unpL (bodyL f n) with
        | none => exact H 4 (.inr (.inr (.inr ⟨by omega, by omega, hh, .inl ⟨hu, rfl, rfl⟩⟩))) (by decide) (by decide)
        | some L =>
          cases hp : packL L
          · exact H 2 (.inr (.inr (.inr ⟨by omega, by omega, hh, .inr ⟨L, hu, .inl ⟨hp, rfl, rfl⟩⟩⟩))) (by decide) (by decide)
          · exact PUn_ok a n c f w B hBw hB hf hnc hcm h1 (by omega) hh L hu hp
      · exact H 4 (.inr (.inr (.inl ⟨by omega, by omega, hh, rfl, rfl⟩))) (by decide) (by decide)
  · by_cases h2 : 40000 < n ∧ n ≤ 40100
    · exact PUn_err a n c f w B hBw hB hf hnc hcm (.inr h2) 3 [] (.inl ⟨h2.1, rfl, rfl⟩) (by simp) (by decide) (by decide)
    · exact PUn_out a n c w (by omega) (by omega)
end Go.Proofs.Ytgcepjminlapiaa
