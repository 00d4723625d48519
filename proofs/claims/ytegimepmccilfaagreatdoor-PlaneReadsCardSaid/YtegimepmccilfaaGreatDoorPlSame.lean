/- The walks of the reference's comparisons of setups that are the same. -/
import Derived.Test.YtegimepmccilfaaGreatDoorPlaneQ
import Derived.Test.YtegimepmccilfaaGreatDoorRowOwn
namespace Go.Proofs.YtegimepmccilfaaGreatDoor
open Go.RowKit
set_option linter.unusedVariables false
set_option linter.unusedSimpArgs false
theorem Ints.congr {B : Nat} {w : World} {a : Option Addr} {n : Nat} {f g : Nat → Int} (h : Ints B w a n f) (e : ∀ i, i < n → f i = g i) : Ints B w a n g := by
  rcases h with h | ⟨b, off, ha, hB, hc⟩
  · exact .inl h
  · exact .inr ⟨b, off, ha, hB, fun i hi => by rw [← e i hi]; exact hc i hi⟩
theorem Drifts.congr {B : Nat} {w : World} {a : Option Addr} {n : Nat} {f g : Nat → DV} (h : Drifts B w a n f) (e : ∀ i, i < n → f i = g i) : Drifts B w a n g := by
  rcases h with h | ⟨b, off, ha, hB, hc⟩
  · exact .inl h
  · exact .inr ⟨b, off, ha, hB, fun i hi => by rw [← e i hi]; exact hc i hi⟩
set_option maxRecDepth 100000 in
set_option maxHeartbeats 1000000 in
theorem Same_same (a b : Option Addr) (n c d : Nat) (f : Nat → Int) (w : World) (B : Nat) (hBw : B ≤ w.heap.size) (hf : Ints B w a n f) (hg : Ints B w b n f) (hn : n ≤ maxLen) :
    Calls Tryz.prog 54 #[.slice a n c, .slice b n d] w fun e w' => e = .returned (.bool true) ∧ Below w.heap.size w w' := by
  unfold maxLen at hn
  have HFa := Lib.hid hf
  have HGa := Lib.hid hg
  clear hf hg
  go_enter Tryz.func54, Tryz.ntmps54
  go_wp2
  go_loopw [5] (fun t wr => ∃ k : Nat, k ≤ n ∧ t = .int .i64 k ∧ Below w.heap.size w wr) (fun t _ => n - (intOf t).toNat)
  case atStart => exact ⟨0, Nat.zero_le _, rfl, Below.refl _ _⟩
  case round =>
    obtain ⟨k, hk, rfl, hb⟩ := hrel
    by_cases hlt : k < n
    · rcases HFa.out with e0 | ⟨b1, o1, rfl, hb1, hc1⟩
      · omega
      rcases HGa.out with e0 | ⟨b2, o2, rfl, hb2, hc2⟩
      · omega
      have c0 := hc1 k hlt
      have d0 := hc2 k hlt
      have l1 : b1 < w.heap.size := by omega
      have l2 : b2 < w.heap.size := by omega
      obtain ⟨hc, hf⟩ := bcell hb
      clear hc1 hc2
      go_wp2_with fail
      go_quiet (fail)
      go_wp2
      go_roundw
      case rel => exact ⟨k + 1, by omega, by go_num, below_drewN hb _⟩
      case measure => simp [intOf]; omega
    · go_wp2
      go_ret
      exact ⟨rfl, hb⟩
def nsV (z first pitch strips spill olo ohi clo chi jitter least : Int) (i : Nat) : Int := ([z, first, pitch, strips, spill, olo, ohi, clo, chi, jitter, least] : List Int).getD i 0
def SnRes (w : World) (f : Nat → Int) (e : Ending) (w' : World) : Prop := ∃ b, e = .returned (.slice (some ⟨b, 0, none⟩) 11 11) ∧ Ints w'.heap.size w' (some ⟨b, 0, none⟩) 11 f ∧ Below w.heap.size w w'
set_option maxRecDepth 100000 in
set_option maxHeartbeats 1000000 in
theorem numbers_any {kind view z first pitch strips spill olo ohi clo chi jitter least : Int} {da : Option Addr} {dn dc : Nat} {ea : Option Addr} {en ec : Nat} (w : World) :
    Calls Tryz.prog 47 #[.agg #[.int .i64 kind, .int .i64 view, .int .i64 z, .int .i64 first, .int .i64 pitch, .int .i64 strips, .int .i64 spill, .int .i64 olo, .int .i64 ohi, .int .i64 clo, .int .i64 chi, .int .i64 jitter, .int .i64 least, .slice da dn dc, .slice ea en ec]] w (SnRes w (nsV z first pitch strips spill olo ohi clo chi jitter least)) := by
  go_enter Tryz.func47, Tryz.ntmps47
  go_wp2
  go_ret
  refine ⟨w.heap.size + 1, by first | rfl | simp, .inr ⟨w.heap.size + 1, 0, rfl, by simp, fun i hi => ?_⟩, ((Below.refl _ _).alloc (Nat.le_refl _) _).alloc (by simp) _⟩
  refine (cell_of_row _ _ _ _ _ _ (heapQ_2_1 _ _ _)).trans ?_
  match i, hi with
  | 0, _ | 1, _ | 2, _ | 3, _ | 4, _ | 5, _ | 6, _ | 7, _ | 8, _ | 9, _ | 10, _ => rfl
/-- two planes that say the same -/
structure PSame (p q : PR) : Prop where
  kind : p.kind = q.kind
  view : p.view = q.view
  z : p.z = q.z
  first : p.first = q.first
  pitch : p.pitch = q.pitch
  strips : p.strips = q.strips
  spill : p.spill = q.spill
  olo : p.olo = q.olo
  ohi : p.ohi = q.ohi
  clo : p.clo = q.clo
  chi : p.chi = q.chi
  jitter : p.jitter = q.jitter
  least : p.least = q.least
  dn : p.dn = q.dn
  en : p.en = q.en
  ds : p.ds = q.ds
  es : p.es = q.es
/-- the boxes of SamePlane -/
abbrev Q2 (b : Nat) (A C : Array Value) (w w' : World) : Prop := (∀ j, w'.cell? ⟨b, j, none⟩ = A[j]?) ∧ (∀ j, w'.cell? ⟨b + 1, j, none⟩ = C[j]?) ∧ b + 2 ≤ w'.heap.size ∧ Below b w w'
theorem Q2_step {b : Nat} {A C : Array Value} {w W wy : World} (h : Q2 b A C w W) (hb : Below W.heap.size W wy) : Q2 b A C w wy :=
  ⟨fun j => (hb.cell (p := ⟨b, j, none⟩) (by show b < _; have := h.2.2.1; omega)).trans (h.1 j), fun j => (hb.cell (p := ⟨b + 1, j, none⟩) (by show b + 1 < _; have := h.2.2.1; omega)).trans (h.2.1 j), by have := h.2.2.1; have := hb.size; omega, h.2.2.2.trans (hb.mono (by have := h.2.2.1; omega))⟩
theorem Q2_start {w : World} {A C : Array Value} {t t' : TypeId} : Q2 w.heap.size A C w ((w.alloc (.cells A t)).alloc (.cells C t')) :=
  ⟨fun j => cell_of_row _ _ _ _ _ _ (heapQ_2_0 _ _ _), fun j => cell_of_row _ _ _ _ _ _ (heapQ_2_1 _ _ _), by simp, ((Below.refl _ _).alloc (Nat.le_refl _) _).alloc (by simp) _⟩
theorem Q2_drew {b : Nat} {A C : Array Value} {w W : World} (h : Q2 b A C w W) : Q2 b A C w W.drew := ⟨h.1, h.2.1, h.2.2.1, h.2.2.2.drew⟩
theorem Q2_sz {b : Nat} {A C : Array Value} {w W : World} (h : Q2 b A C w W) : b + 2 ≤ W.heap.size := h.2.2.1
theorem Q2_below {b : Nat} {A C : Array Value} {w W : World} (h : Q2 b A C w W) : Below b w W := h.2.2.2
theorem Ints.step {w w' : World} {a : Option Addr} {n : Nat} {f : Nat → Int} (h : Ints w.heap.size w a n f) (hb : Below w.heap.size w w') : Ints w'.heap.size w' a n f := (h.below hb).up hb.size
set_option maxRecDepth 100000 in
set_option maxHeartbeats 4000000 in
theorem SamePlane_core (kind view z first pitch strips spill olo ohi clo chi jitter least : Int) (da : Option Addr) (dn dc : Nat) (ea : Option Addr) (en ec : Nat) (da' : Option Addr) (dc' : Nat) (ea' : Option Addr) (ec' : Nat) (ds : Nat → DV) (es : Nat → Int) (w : World) (B : Nat) (hBw : B ≤ w.heap.size)
    (hdn : dn ≤ maxLen) (hen : en ≤ maxLen) (h1 : Drifts B w da dn ds) (h2 : Ints B w ea en es) (h3 : Drifts B w da' dn ds) (h4 : Ints B w ea' en es) :
    Calls Tryz.prog 29 #[.agg #[.int .i64 kind, .int .i64 view, .int .i64 z, .int .i64 first, .int .i64 pitch, .int .i64 strips, .int .i64 spill, .int .i64 olo, .int .i64 ohi, .int .i64 clo, .int .i64 chi, .int .i64 jitter, .int .i64 least, .slice da dn dc, .slice ea en ec], .agg #[.int .i64 kind, .int .i64 view, .int .i64 z, .int .i64 first, .int .i64 pitch, .int .i64 strips, .int .i64 spill, .int .i64 olo, .int .i64 ohi, .int .i64 clo, .int .i64 chi, .int .i64 jitter, .int .i64 least, .slice da' dn dc', .slice ea' en ec']] w fun e w' => e = .returned (.bool true) ∧ Below w.heap.size w w' := by
  have H1 := Lib.hid h1
  have H2 := Lib.hid h2
  have H3 := Lib.hid h3
  have H4 := Lib.hid h4
  have HEN := Lib.hid hen
  clear h1 h2 h3 h4 hen
  unfold maxLen at hdn
  go_enter Tryz.func29, Tryz.ntmps29
  go_upto_region 1 with (fail)
  go_cut [42] from 6 to 42 (fun s42 wx => s42 = .bool false ∧ Q2 w.heap.size #[.int .i64 kind, .int .i64 view, .int .i64 z, .int .i64 first, .int .i64 pitch, .int .i64 strips, .int .i64 spill, .int .i64 olo, .int .i64 ohi, .int .i64 clo, .int .i64 chi, .int .i64 jitter, .int .i64 least, .slice da dn dc, .slice ea en ec] #[.int .i64 kind, .int .i64 view, .int .i64 z, .int .i64 first, .int .i64 pitch, .int .i64 strips, .int .i64 spill, .int .i64 olo, .int .i64 ohi, .int .i64 clo, .int .i64 chi, .int .i64 jitter, .int .i64 least, .slice da' dn dc', .slice ea' en ec'] w wx)
  case first =>
    have hS0 := Q2_start (w := w) (A := #[.int .i64 kind, .int .i64 view, .int .i64 z, .int .i64 first, .int .i64 pitch, .int .i64 strips, .int .i64 spill, .int .i64 olo, .int .i64 ohi, .int .i64 clo, .int .i64 chi, .int .i64 jitter, .int .i64 least, .slice da dn dc, .slice ea en ec]) (C := #[.int .i64 kind, .int .i64 view, .int .i64 z, .int .i64 first, .int .i64 pitch, .int .i64 strips, .int .i64 spill, .int .i64 olo, .int .i64 ohi, .int .i64 clo, .int .i64 chi, .int .i64 jitter, .int .i64 least, .slice da' dn dc', .slice ea' en ec']) (t := 42) (t' := 42)
    go_region_held3 (fun w' => (∀ j, w'.cell? ⟨w.heap.size, j, none⟩ = (#[.int .i64 kind, .int .i64 view, .int .i64 z, .int .i64 first, .int .i64 pitch, .int .i64 strips, .int .i64 spill, .int .i64 olo, .int .i64 ohi, .int .i64 clo, .int .i64 chi, .int .i64 jitter, .int .i64 least, .slice da dn dc, .slice ea en ec] : Array Value)[j]?) ∧ (∀ j, w'.cell? ⟨w.heap.size + 1, j, none⟩ = (#[.int .i64 kind, .int .i64 view, .int .i64 z, .int .i64 first, .int .i64 pitch, .int .i64 strips, .int .i64 spill, .int .i64 olo, .int .i64 ohi, .int .i64 clo, .int .i64 chi, .int .i64 jitter, .int .i64 least, .slice da' dn dc', .slice ea' en ec'] : Array Value)[j]?) ∧ w.heap.size + 2 ≤ w'.heap.size ∧ Below w.heap.size w w') (first | (repeat (first | (with_reducible assumption) | (with_reducible refine Q2_drew ?_)))) (first
      | (go_at_call 47; refine (numbers_any _).mono ?_; rintro e wy ⟨bb, rfl, hIb, hby⟩; have hsy := Q2_step (by with_reducible assumption) hby; (try have hIc := Ints.step (n := 11) (f := nsV z first pitch strips spill olo ohi clo chi jitter least) (by with_reducible assumption) hby); clear hby)
      | (go_at_call 54; (with_reducible refine (Same_same ea ea' en ec ec' es _ B (Nat.le_trans hBw (Nat.le_of_lt (Nat.lt_of_lt_of_le (Nat.lt_succ_self _) (Nat.le_of_succ_le (Q2_sz (by with_reducible assumption)))))) (H2.out.below ((Q2_below (by with_reducible assumption)).mono hBw)) (H4.out.below ((Q2_below (by with_reducible assumption)).mono hBw)) HEN.out).mono ?_); rintro e wy ⟨rfl, hby⟩; have hsy := Q2_step (by with_reducible assumption) hby; clear hby)
      | (go_at_call 54; (with_reducible refine (Same_same _ _ 11 11 11 (nsV z first pitch strips spill olo ohi clo chi jitter least) _ _ (Nat.le_refl _) (by with_reducible assumption) (by with_reducible assumption) (by decide)).mono ?_); rintro e wy ⟨rfl, hby⟩; have hsy := Q2_step (by with_reducible assumption) hby; clear hby))
    all_goals (go_wp2_with fail)
    all_goals go_meet
    all_goals exact ⟨by first | rfl | simp, by with_reducible assumption⟩
  obtain ⟨rfl, hS⟩ := hcut
  go_wp2
  go_loopw [5] (fun t wr => ∃ k : Nat, k ≤ dn ∧ t = .int .i64 k ∧ Q2 w.heap.size #[.int .i64 kind, .int .i64 view, .int .i64 z, .int .i64 first, .int .i64 pitch, .int .i64 strips, .int .i64 spill, .int .i64 olo, .int .i64 ohi, .int .i64 clo, .int .i64 chi, .int .i64 jitter, .int .i64 least, .slice da dn dc, .slice ea en ec] #[.int .i64 kind, .int .i64 view, .int .i64 z, .int .i64 first, .int .i64 pitch, .int .i64 strips, .int .i64 spill, .int .i64 olo, .int .i64 ohi, .int .i64 clo, .int .i64 chi, .int .i64 jitter, .int .i64 least, .slice da' dn dc', .slice ea' en ec'] w wr) (fun t _ => dn - (intOf t).toNat)
  case atStart => exact ⟨0, Nat.zero_le _, rfl, hS⟩
  case round =>
    clear hS
    obtain ⟨k, hk, rfl, hS⟩ := hrel
    have HS := Lib.hid hS
    obtain ⟨q1, q2, q3, q4⟩ := hS
    have qa := q1 13
    have qb := q2 13
    simp at qa qb
    have hz1 : w.heap.size < wr.heap.size := by omega
    have hz2 : w.heap.size + 1 < wr.heap.size := by omega
    clear q1 q2
    by_cases hlt : k < dn
    · rcases (H1.out.below (q4.mono hBw)) with e0 | ⟨b1, o1, rfl, hb1, hc1⟩
      · omega
      rcases (H3.out.below (q4.mono hBw)) with e0 | ⟨b2, o2, rfl, hb2, hc2⟩
      · omega
      obtain ⟨c0, c1, c2⟩ := hc1 k hlt
      obtain ⟨d0, d1, d2⟩ := hc2 k hlt
      clear hc1 hc2
      go_wp2_with fail
      go_quiet (fail)
      go_wp2
      go_roundw
      case rel => exact ⟨k + 1, by omega, by go_num, by have h := HS.out; exact ⟨fun j => by simpa using h.1 j, fun j => by simpa using h.2.1 j, by simpa using h.2.2.1, below_drewN h.2.2.2 _⟩⟩
      case measure => simp [intOf]; omega
    · go_wp2
      go_ret
      exact ⟨rfl, q4⟩
theorem SamePlane_same (p q : PR) (w : World) (B : Nat) (hBw : B ≤ w.heap.size) (hp : p.mem B w) (hq : q.mem B w) (hE : PSame p q) :
    Calls Tryz.prog 29 #[p.plane, q.plane] w fun e w' => e = .returned (.bool true) ∧ Below w.heap.size w w' := by
  obtain ⟨kind, view, z, first, pitch, strips, spill, olo, ohi, clo, chi, jitter, least, da, dn, dc, ea, en, ec, ds, es⟩ := p
  obtain ⟨kind', view', z', first', pitch', strips', spill', olo', ohi', clo', chi', jitter', least', da', dn', dc', ea', en', ec', ds', es'⟩ := q
  obtain ⟨e1, e2, e3, e4, e5, e6, e7, e8, e9, e10, e11, e12, e13, e14, e15, e16, e17⟩ := hE
  dsimp only at *
  subst e1 e2 e3 e4 e5 e6 e7 e8 e9 e10 e11 e12 e13 e14 e15 e16 e17
  exact SamePlane_core kind view z first pitch strips spill olo ohi clo chi jitter least da dn dc ea en ec da' dc' ea' ec' ds es w B hBw hp.1 hp.2.1 hp.2.2.1 hp.2.2.2 hq.2.2.1 hq.2.2.2
abbrev B2 (a : Option Addr) (n c : Nat) (b : Option Addr) (d : Nat) (w wx : World) : Prop := wx.cell? ⟨w.heap.size, 0, none⟩ = some (.slice a n c) ∧ wx.cell? ⟨w.heap.size + 1, 0, none⟩ = some (.slice b n d) ∧ w.heap.size < wx.heap.size ∧ w.heap.size + 1 < wx.heap.size ∧ Below w.heap.size w wx
theorem B2_step {a : Option Addr} {n c : Nat} {b : Option Addr} {d : Nat} {w W wy : World} (h : B2 a n c b d w W) (hb : Below W.heap.size W wy) : B2 a n c b d w wy := by
  obtain ⟨h1, h2, h3, h4, h5⟩ := h
  obtain ⟨hc, hf⟩ := bcell hb
  have := hb.size
  exact ⟨(hc _ _ h3).trans h1, (hc _ _ h4).trans h2, by omega, by omega, h5.trans (hb.mono (by omega))⟩
set_option maxRecDepth 100000 in
set_option maxHeartbeats 2000000 in
theorem SameSetup_same (a b : Option Addr) (n c d : Nat) (ps qs : Nat → PR) (w : World) (B : Nat) (hBw : B ≤ w.heap.size) (hP : Planes B w a n ps) (hQ : Planes B w b n qs) (hE : ∀ i, i < n → PSame (ps i) (qs i)) :
    Calls Tryz.prog 11 #[setupV a n c, setupV b n d] w fun e w' => e = .returned (.bool true) ∧ Below w.heap.size w w' := by
  have hn := hP.1
  unfold maxLen at hn
  have HP := Lib.hid hP
  have HQ := Lib.hid hQ
  have HE := Lib.hid hE
  clear hP hQ hE
  go_enter Tryz.func11, Tryz.ntmps11
  go_wp2
  go_loopw [5] (fun t wr => ∃ k : Nat, k ≤ n ∧ t = .int .i64 k ∧ B2 a n c b d w wr) (fun t _ => n - (intOf t).toNat)
  case atStart => exact ⟨0, Nat.zero_le _, rfl, by go_simp, by go_simp, by simp; omega, by simp, ((Below.refl _ _).alloc (Nat.le_refl _) _).alloc (by simp) _⟩
  case round =>
    obtain ⟨k, hk, rfl, l0, l1, l2, l3, l4⟩ := hrel
    by_cases hlt : k < n
    · obtain ⟨b1, o1, rfl, hb1, ⟨c0, c1, c2, c3, c4, c5, c6, c7, c8, c9, c10, c11, c12, c13, c14⟩, hm1⟩ := (HP.out.below (l4.mono hBw)).get hlt
      obtain ⟨b2, o2, rfl, hb2, ⟨d0, d1, d2, d3, d4, d5, d6, d7, d8, d9, d10, d11, d12, d13, d14⟩, hm2⟩ := (HQ.out.below (l4.mono hBw)).get hlt
      have hz1 : b1 < wr.heap.size := by omega
      have hz2 : b2 < wr.heap.size := by omega
      have hES := HE.out k hlt
      generalize ps k = p at *
      generalize qs k = q at *
      have HES := Lib.hid hES
      have HM1 := Lib.hid hm1
      have HM2 := Lib.hid hm2
      clear hES hm1 hm2
      go_upto_region 6 with (fail)
      (refine wp_region_calm (wr.heap.size) (by kernel_rfl) (by kernel_rfl) ?_; (repeat (first | go_big_quiet_step ((go_at_call 29; refine Calls.calm_of (Nat.le_refl _) (SamePlane_same p q _ B ?_ ?_ ?_ HES.out); (· (have := Below.size (Calm.below (by assumption)); omega)); (· exact HM1.out.below (Below.mono (Calm.below _) (by omega))); (· exact HM2.out.below (Below.mono (Calm.below _) (by omega))))) | quiet_step ((go_at_call 29; refine Calls.calm_of (Nat.le_refl _) (SamePlane_same p q _ B ?_ ?_ ?_ HES.out); (· (have := Below.size (Calm.below (by assumption)); omega)); (· exact HM1.out.below (Below.mono (Calm.below _) (by omega))); (· exact HM2.out.below (Below.mono (Calm.below _) (by omega))))))); refine wpQuiet_nil ?_; intro _ hw'; obtain ⟨xq, hw''⟩ := hw'; subst hw'')
      have hL := B2_step ⟨l0, l1, l2, l3, l4⟩ xq.below
      go_wp2
      go_roundw
      case rel => exact ⟨k + 1, by omega, by go_num, hL⟩
      case measure => simp [intOf]; omega
    · go_wp2
      go_ret
      exact ⟨rfl, l4⟩
end Go.Proofs.YtegimepmccilfaaGreatDoor
