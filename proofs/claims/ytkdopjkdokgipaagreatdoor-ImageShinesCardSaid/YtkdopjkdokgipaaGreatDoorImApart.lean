/- The walks of image.apart and near's function. -/
import Derived.Test.YtkdopjkdokgipaaGreatDoorImOwn
import Derived.Test.YtkdopjkdokgipaaGreatDoorGbA
namespace Go.Proofs.YtkdopjkdokgipaaGreatDoor
open Go.RowKit
set_option linter.unusedVariables false
set_option linter.unusedSimpArgs false
/-- densities as images have them -/
def DenseF (n : Nat) (f : Nat → Int) : Prop := ∀ c, c < n → 0 ≤ f c ∧ f c ≤ 1000
theorem apartF_range {f g : Nat → Int} {n k : Nat} (hf : DenseF n f) (hg : DenseF n g) (hk : k ≤ n) : 0 ≤ apartF f g k ∧ apartF f g k ≤ 1000 :=
  ⟨apart_nonneg f g k, apart_le k (by omega) (fun i hi => by have := hf i (by omega); have := hg i (by omega); omega)⟩
set_option maxRecDepth 100000 in
set_option maxHeartbeats 1000000 in
theorem apart_any (aa : Option Addr) (n ac : Nat) (f : Nat → Int) (ga : Option Addr) (gc : Nat) (g : Nat → Int) (w : World) (hF : Ints w.heap.size w aa n f) (hG : Ints w.heap.size w ga n g) (hn : n ≤ 1000000) (hf : DenseF n f) (hg : DenseF n g) :
    Calls Tryz.prog 69 #[.slice aa n ac, .slice ga n gc] w fun e w' => e = .returned (.int .i64 (apartF f g n)) ∧ Below w.heap.size w w' := by
  have HF := Lib.hid hF
  have HG := Lib.hid hG
  have HD := Lib.hid (And.intro hf hg)
  clear hF hG hf hg
  go_enter Tryz.func69, Tryz.ntmps69
  go_wp2
  go_loopw [5, 9] (fun s5 t wr => ∃ i : Nat, i ≤ n ∧ t = .int .i64 (i : Int) ∧ s5 = .int .i64 (apartF f g i) ∧ Hid (Below w.heap.size w wr)) (fun _ t _ => n - (intOf t).toNat)
  case atStart => exact ⟨0, Nat.zero_le _, rfl, rfl, Lib.hid (Below.refl _ _)⟩
  case round =>
    obtain ⟨i, hi, rfl, rfl, HB⟩ := hrel
    by_cases hlt : i < n
    · have hlt' : (i : Int) < (n : Int) := by omega
      obtain ⟨fb, fo, rfl, hfz, x0⟩ := (HF.out.below HB.out).get hlt
      obtain ⟨gb, go_, rfl, hgz, y0⟩ := (HG.out.below HB.out).get hlt
      have hz := HB.out.size
      have hfz2 : fb < wr.heap.size := by omega
      have hgz2 : gb < wr.heap.size := by omega
      have hA := apartF_range HD.out.1 HD.out.2 (k := i) (by omega)
      have hfi := HD.out.1 i hlt
      have hgi := HD.out.2 i hlt
      have HE := Lib.hid (show apartF f g (i + 1) = max (max (apartF f g i) (f i - g i)) (g i - f i) from rfl)
      generalize hA2 : apartF f g (i + 1) = A2 at HE
      have HA2 := Lib.hid hA2
      clear hA2
      generalize f i = fi at *
      generalize g i = gi at *
      generalize apartF f g i = A at *
      go_upto_region 5 with (fail)
      go_region
      have HM := Lib.hid (show (if (if A < fi - gi then fi - gi else A) < gi - fi then gi - fi else if A < fi - gi then fi - gi else A) = A2 from by rw [HE.out]; split <;> split <;> omega)
      rw [HM.out]
      go_wp2
      go_roundw
      case rel => exact ⟨i + 1, by omega, by go_num, by rw [HA2.out], Lib.hid HB.out.drew⟩
      case measure => simp [intOf]; omega
    · obtain rfl : i = n := by omega
      have hlt' : ¬ (i : Int) < (i : Int) := by omega
      go_wp2
      go_ret
      exact ⟨rfl, HB.out⟩
/-- fields in memory: a slice of rows of numbers -/
def Flds (B : Nat) (w : World) (a : Option Addr) (n : Nat) (l : List (List Int)) : Prop :=
  l = [] ∨ ∃ b off, a = some ⟨b, off, none⟩ ∧ b < B ∧ ∀ i, i < l.length → ∃ ra rc, w.cell? ⟨b, off + i, none⟩ = some (.slice ra n rc) ∧ Ints B w ra n (fOf (l.getD i []))
theorem Flds.below {B : Nat} {w w' : World} {a : Option Addr} {n : Nat} {l : List (List Int)} (h : Flds B w a n l) (hb : Below B w w') : Flds B w' a n l := by
  rcases h with h | ⟨b, off, ha, hB, hc⟩
  · exact .inl h
  · refine .inr ⟨b, off, ha, hB, fun i hi => ?_⟩
    obtain ⟨ra, rc, h1, h2⟩ := hc i hi
    exact ⟨ra, rc, ((bcell hb).1 _ _ hB).trans h1, h2.below hb⟩
theorem Flds.up {B B' : Nat} {w : World} {a : Option Addr} {n : Nat} {l : List (List Int)} (h : Flds B w a n l) (hb : B ≤ B') : Flds B' w a n l := by
  rcases h with h | ⟨b, off, ha, hB, hc⟩
  · exact .inl h
  · refine .inr ⟨b, off, ha, by omega, fun i hi => ?_⟩
    obtain ⟨ra, rc, h1, h2⟩ := hc i hi
    exact ⟨ra, rc, h1, h2.up hb⟩
theorem Flds.get {B : Nat} {w : World} {a : Option Addr} {n : Nat} {l : List (List Int)} (h : Flds B w a n l) {i : Nat} (hi : i < l.length) : ∃ b off ra rc, a = some ⟨b, off, none⟩ ∧ b < B ∧ w.cell? ⟨b, off + i, none⟩ = some (.slice ra n rc) ∧ Ints B w ra n (fOf (l.getD i [])) := by
  rcases h with h | ⟨b, off, ha, hB, hc⟩
  · subst h; simp at hi
  · obtain ⟨ra, rc, h1, h2⟩ := hc i hi
    exact ⟨b, off, ra, rc, ha, hB, h1, h2⟩
def DenseL (n : Nat) (l : List (List Int)) : Prop := ∀ f ∈ l, DenseF n (fOf f)
theorem DenseL.get {n : Nat} {l : List (List Int)} (h : DenseL n l) {i : Nat} (hi : i < l.length) : DenseF n (fOf (l.getD i [])) := by
  rw [List.getD_eq_getElem?_getD, List.getElem?_eq_getElem hi]
  exact h _ (List.getElem_mem hi)
set_option maxRecDepth 100000 in
set_option maxHeartbeats 1000000 in
theorem near1_any (xa : Option Addr) (n xc : Nat) (x : List Int) (fa : Option Addr) (fc : Nat) (f : List Int) (ch : Int) (fB cB : Nat) (w : World) (hX : Ints w.heap.size w xa n (fOf x)) (hF : Ints w.heap.size w fa n (fOf f)) (hfB : w.cell? ⟨fB, 0, none⟩ = some (.slice fa n fc)) (hcB : w.cell? ⟨cB, 0, none⟩ = some (.int .i64 ch)) (hn : n ≤ 1000000) (hx : DenseF n (fOf x)) (hf : DenseF n (fOf f)) :
    Calls Tryz.prog 98 #[.slice xa n xc, .pointer (some ⟨fB, 0, none⟩), .pointer (some ⟨cB, 0, none⟩)] w fun e w' => e = .returned (.bool (decide (apartL n x f ≤ ch))) ∧ Below w.heap.size w w' := by
  have HC := Lib.hid (fun (W : World) (hb : Below w.heap.size w W) => apart_any xa n xc (fOf x) fa fc (fOf f) W ((hX.below hb).up hb.size) ((hF.below hb).up hb.size) hn hx hf)
  have hfz : fB < w.heap.size := World.block_lt_of_cell? w _ hfB
  have hcz : cB < w.heap.size := World.block_lt_of_cell? w _ hcB
  unfold apartL
  generalize apartF (fOf x) (fOf f) n = A at *
  clear hX hF hx hf
  go_enter Tryz.func98, Tryz.ntmps98
  go_upto_region 1 with (fail)
  (refine wp_region_calm (w.heap.size) (by kernel_rfl) (by kernel_rfl) ?_; (repeat (first | go_big_quiet_step ((go_at_call 69; exact Calls.calm_of (Nat.le_refl _) (HC.out _ (Calm.below _)))) | quiet_step ((go_at_call 69; exact Calls.calm_of (Nat.le_refl _) (HC.out _ (Calm.below _)))))); refine wpQuiet_nil ?_; intro _ hw'; obtain ⟨xq, hw''⟩ := hw'; subst hw'')
  go_wp2
  go_ret
  exact ⟨rfl, Calm.below _⟩
def closN (fB cB : Nat) : Value := .func (.func 98) #[] #[.pointer (some ⟨fB, 0, none⟩), .pointer (some ⟨cB, 0, none⟩)]
theorem any_take {α : Type} {p : α → Bool} {l : List α} {i : Nat} {d : α} (hi : i < l.length) : (l.take (i + 1)).any p = ((l.take i).any p || p (l.getD i d)) := by
  rw [List.take_add_one, List.any_append, List.getElem?_eq_getElem hi, List.getD_eq_getElem?_getD, List.getElem?_eq_getElem hi]
  simp
theorem any_of_take {α : Type} {p : α → Bool} {l : List α} {i : Nat} (h : (l.take i).any p = true) : l.any p = true := by
  rw [List.any_eq_true] at *
  obtain ⟨x, h1, h2⟩ := h
  exact ⟨x, List.mem_of_mem_take h1, h2⟩
set_option maxRecDepth 100000 in
set_option maxHeartbeats 1000000 in
theorem indexF_any (ka : Option Addr) (n kc : Nat) (k : List (List Int)) (fa : Option Addr) (fc : Nat) (f : List Int) (ch : Int) (fB cB : Nat) (w : World) (hK : Flds w.heap.size w ka n k) (hkl : k.length ≤ 1000000) (hF : Ints w.heap.size w fa n (fOf f)) (hfB : w.cell? ⟨fB, 0, none⟩ = some (.slice fa n fc)) (hcB : w.cell? ⟨cB, 0, none⟩ = some (.int .i64 ch)) (hn : n ≤ 1000000) (hx : DenseL n k) (hf : DenseF n (fOf f)) :
    Calls Tryz.prog 120 #[.slice ka k.length kc, .func (.func 98) #[] #[.pointer (some ⟨fB, 0, none⟩), .pointer (some ⟨cB, 0, none⟩)]] w fun e w' => (∃ r : Int, e = .returned (.int .i64 r) ∧ decide (0 ≤ r) = k.any (fun x => decide (apartL n x f ≤ ch))) ∧ Below w.heap.size w w' := by
  have HK := Lib.hid hK
  have hfz : fB < w.heap.size := World.block_lt_of_cell? w _ hfB
  have hcz : cB < w.heap.size := World.block_lt_of_cell? w _ hcB
  have HC := Lib.hid (fun (W : World) (hb : Below w.heap.size w W) (xa : Option Addr) (xc : Nat) (i : Nat) (hi : i < k.length) (hX : Ints w.heap.size w xa n (fOf (k.getD i []))) => near1_any xa n xc (k.getD i []) fa fc f ch fB cB W ((hX.below hb).up hb.size) ((hF.below hb).up hb.size) (((bcell hb).1 _ _ hfz).trans hfB) (((bcell hb).1 _ _ hcz).trans hcB) hn (hx.get hi) hf)
  have HA := Lib.hid (fun i (hi : i < k.length) => any_take (p := fun x => decide (apartL n x f ≤ ch)) (l := k) (d := []) hi)
  have HA2 := Lib.hid (fun i => any_of_take (p := fun x => decide (apartL n x f ≤ ch)) (l := k) (i := i))
  have HA3 := Lib.hid (show k.take k.length = k from List.take_length)
  obtain ⟨kl, hkl2⟩ : ∃ kl, k.length = kl := ⟨_, rfl⟩
  have HKL := Lib.hid hkl2
  rw [hkl2] at HC HA HA3 hkl ⊢
  clear hK hF hfB hcB hx hf hkl2
  go_enter Tryz.func120, Tryz.ntmps120
  go_wp2
  go_loopw [8] (fun t wr => ∃ i : Nat, i ≤ kl ∧ t = .int .i64 (i : Int) ∧ Hid ((k.take i).any (fun x => decide (apartL n x f ≤ ch)) = false) ∧ Hid (Below w.heap.size w wr)) (fun t _ => kl - (intOf t).toNat)
  case atStart => exact ⟨0, Nat.zero_le _, rfl, Lib.hid rfl, Lib.hid (Below.refl _ _)⟩
  case round =>
    obtain ⟨i, hi, rfl, HN, HB⟩ := hrel
    by_cases hlt : i < kl
    · have hlt' : (i : Int) < (kl : Int) := by omega
      obtain ⟨b, off, ra, rc, rfl, hbz, x0, x1⟩ := HK.out.get (i := i) (by rw [HKL.out]; exact hlt)
      have hz := HB.out.size
      have x2 := ((bcell HB.out).1 _ _ hbz).trans x0
      have HCI := Lib.hid (HC.out wr HB.out ra rc i hlt x1)
      have HAI := Lib.hid (HA.out i hlt)
      clear x0 x1
      cases hd : decide (apartL n (k.getD i []) f ≤ ch)
      · rw [hd] at HCI
        go_wp2_with (fail)
        refine HCI.out.mono ?_
        rintro e w2 ⟨rfl, hb2⟩
        go_wp2
        go_roundw
        case rel => exact ⟨i + 1, by omega, by go_num, Lib.hid (by rw [HAI.out, HN.out, hd]; rfl), Lib.hid (HB.out.trans (hb2.mono hz))⟩
        case measure => simp [intOf]; omega
      · rw [hd] at HCI
        have HT := Lib.hid (HA2.out (i + 1) (by rw [HAI.out, hd, Bool.or_true]))
        go_wp2_with (fail)
        refine HCI.out.mono ?_
        rintro e w2 ⟨rfl, hb2⟩
        go_wp2
        go_ret
        exact ⟨⟨_, rfl, by rw [HT.out]; exact decide_eq_true (by omega)⟩, HB.out.trans (hb2.mono hz)⟩
    · obtain rfl : i = kl := by omega
      have hlt' : ¬ (i : Int) < (i : Int) := by omega
      go_wp2
      go_ret
      exact ⟨⟨_, rfl, by have := HN.out; rw [HA3.out] at this; rw [this]; rfl⟩, HB.out⟩
end Go.Proofs.YtkdopjkdokgipaaGreatDoor
