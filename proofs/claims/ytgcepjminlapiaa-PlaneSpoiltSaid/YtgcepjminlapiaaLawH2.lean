/- The statement PlaneSpoilt: where a byte is changed; all of it. -/
import Derived.Test.YtgcepjminlapiaaLawH
namespace Go.Proofs.Ytgcepjminlapiaa
open Go.RowKit
set_option linter.unusedVariables false
set_option linter.unusedSimpArgs false
theorem nil_new {w6 : World} {base n : Nat} {e : TypeId} {v' : Value} {l : List Nat} (h : w6.ownsRow base e 1 v' (0 + n) ([] ++ bC l)) (hn : 0 < n) : ∃ g c, v' = .slice (some ⟨g, 0, none⟩) n c ∧ base ≤ g ∧ g < w6.heap.size ∧ n ≤ c ∧ c ≤ maxLen ∧ Hid (w6.ownsRow base e 1 (.slice (some ⟨g, 0, none⟩) n c) n (bC l)) := by
  rw [Nat.zero_add, List.nil_append] at h
  obtain ⟨a, c, rfl⟩ := own_len h
  obtain ⟨g, rfl, h1, h2, h3, h4⟩ := own_some h hn
  exact ⟨g, c, rfl, h1, h2, h3, h4, Lib.hid h⟩
theorem spoil_byte {l : List Nat} {k y n : Nat} (hy : y < 256) (h : ∀ i, l.getD i 0 < 256) : ∀ i, i < n → (fun i => if i = k then y else l.getD i 0) i < 256 := by
  intro i _; dsimp only; split
  · exact hy
  · exact h i
theorem nil_own {base : Nat} : ∀ g, (Value.slice none 0 0).ownBlock = some g → base ≤ g := by intro g h; simp [Value.ownBlock] at h
theorem bC_one {l : List Nat} : ∀ u ∈ bC l, u.oneCell' = true := by intro u hu; obtain ⟨_, _, rfl⟩ := List.mem_map.1 hu; rfl
theorem bC_len1 (l : List Nat) : (bC l).length = l.length * 1 := by rw [bC_len, Nat.mul_one]
set_option maxRecDepth 100000 in
set_option maxHeartbeats 1000000 in
theorem PSp_ne (a : Option Addr) (m d : Nat) (hs : Nat → HV) (k y : Nat) (w : World) (B : Nat) (hBw : B ≤ w.heap.size) (hH : Hits B w a m hs) (hm : m ≤ 30) (hp : packB m hs = true) (hy : y < 256) (hk : k < (fileN m hs).length) (hU : y ≠ (fileN m hs).getD k 0) :
    Calls Try.prog 12 #[.slice a m d, .int .i64 (k : Int), .int .i64 (y : Int)] w fun e w' => e = .returned (.bool true) ∧ Below w.heap.size w w' := by
  (have HH := Lib.hid hH; clear hH; have h1' : ¬ (30 : Int) < (m : Int) := (by omega); have hlen : (fileN m hs).length ≤ 1000 ∧ 7 ≤ (fileN m hs).length := fileN_len hm hp; have HPK := Lib.hid (fun (w1 : World) (h1 : B ≤ w1.heap.size) (h2 : Hits B w1 a m hs) => Pack_ok a m d hs w1 B h1 h2 hm hp))
  obtain ⟨i0, hi, hz0, hz1, hz2⟩ := info_parts info_u8
  have HBY := Lib.hid (show ∀ x ∈ fileN m hs, x < 256 from fileN_byte)
  have HSP := Lib.hid (show ¬ headOk (fun i => if i = k then y else (fileN m hs).getD i 0) (fileN m hs).length from fileN_spoilt hm hp hy hk hU)
  generalize fileN m hs = FN at *
  have h3 : ¬ (y : Int) < 0 := by omega
  have h4 : ¬ 255 < (y : Int) := by omega
  have h5 : ¬ (k : Int) < 0 := by omega
  have h6 : ¬ (FN.length : Int) ≤ (k : Int) := by omega
  have HU := Lib.hid hU
  clear hU
  go_enter Try.func12, Try.ntmps12
  go_upto_region 6 with (first | (go_at_call 38; refine (Packed_any a m d hs _ B hBw HH.out).mono ?_; rintro e wy ⟨rfl, hby⟩; rw [hp]) | (go_at_call 37; refine (HPK.out _ (Nat.le_trans hBw hby.size) (HH.out.below (hby.mono hBw))).mono ?_; rintro e wz ⟨za, zc, rfl, hown, hbz⟩; obtain ⟨g, rfl, hg1, hg2, _, _⟩ := own_some hown (show 0 < FN.length from Nat.lt_of_lt_of_le (by decide) hlen.2); have c0 : wz.cell? ⟨g, k, none⟩ = some (.int .u8 ((FN.getD k 0 : Nat) : Int)) := (hown.cellAt k (by omega)).trans (bC_get hk); have HO := Lib.hid hown; have hbz2 : Below w.heap.size w wz := hby.trans (hbz.mono hby.size); clear hown hbz hby))
  have hU' : ¬ ((FN.getD k 0 : Nat) : Int) = (y : Int) := by have := HU.out; omega
  have HFB := Lib.hid (fun i => getD_byte HBY.out i)
  have hzb := HFB.out k
  generalize FN.getD k 0 = z at *
  have h6' : ¬ FN.length ≤ k := by omega
  have hU2 : ¬ z = y := by omega
  have hU3 : (z == y) = false := by simpa using hU2
  have hU4 : ((z : Int) == (y : Int)) = false := by rw [beq_eq_false_iff_ne]; omega
  have hcells := HO.out.cells (g := g) rfl
  have HCE := Lib.hid hcells
  clear hcells
  have hb63 : 0 + FN.length ≤ maxLen := by unfold maxLen; omega
  have hb47 : (0 + FN.length) * 1 ≤ 140737488355328 := by omega
  have hFp : 0 < FN.length := by omega
  go_upto_region 9 with (at_builtin; refine wpList_append_own _ rfl _ _ 70 rfl w.heap.size 5 i0 (.int .u8 0) 1 1 Try.underlying70 hi hz0 hz1 hz2 rfl (by decide) _ 0 [] rfl (World.ownsRow_nil _ _ _ _) ⟨g, 0, none⟩ FN.length zc (bC FN) rfl (bC_len1 _) HCE.out bC_one hb63 hb47 hbz2.size ?_; intro v' w6 hown6 hgrow6 hnil6; obtain ⟨g6, c6, rfl, hg61, hg62, hnc6, hcm6, HO6⟩ := nil_new hown6 hFp; have hb6 : Below w.heap.size w w6 := hbz2.grown hgrow6 hbz2.size nil_own; clear hown6 hgrow6 hnil6)
  have d0 : w6.cell? ⟨g6, k, none⟩ = some (.int .u8 ((FN.getD k 0 : Nat) : Int)) := (HO6.out.cellAt k (by omega)).trans (bC_get hk)
  have d1 : w6.frozen? ⟨g6, k, none⟩ = false := HO6.out.frozenAt k
  have d2 : (y : Int) % 256 = (y : Int) := by omega
  clear c0 HCE HO hg1 hg2
  go_upto_region 10 with (fail)
  have HUN := Lib.hid (Unpack_spoilt g6 0 FN.length c6 (fun i => if i = k then y else FN.getD i 0) (w6.setCell ⟨g6, k, none⟩ (.int .u8 (y : Int))) (by simpa using hg62) (spoil_cells HO6.out hk) (spoil_byte hy HFB.out) hlen.2 hlen.1 hnc6 hcm6 HSP.out)
  have hb7 : Below w.heap.size w (w6.setCell ⟨g6, k, none⟩ (.int .u8 (y : Int))) := hb6.setCell (p := ⟨g6, k, none⟩) hg61 _
  generalize w6.setCell ⟨g6, k, none⟩ (.int .u8 (y : Int)) = w7 at *
  go_wp2_with (first | (go_at_call 41; refine HUN.out.mono ?_; rintro e w8 ⟨rfl, hb8⟩; have hb9 : Below w.heap.size w w8 := hb7.trans (hb8.mono hb7.size)) | (go_at_call 16; refine (lawKnown_any _).mono ?_; rintro e wk ⟨rfl, hbk⟩))
  go_ret
  exact ⟨rfl, hb9.trans (hbk.mono hb9.size)⟩
theorem PlaneSpoilt_any (a : Option Addr) (m d : Nat) (hs : Nat → HV) (at' now : Int) (w : World) (B : Nat) (hBw : B ≤ w.heap.size) (hH : Hits B w a m hs ∧ m ≤ d ∧ d ≤ maxLen) (h1 : (Lit.int .i64 at').wf = true) (h2 : (Lit.int .i64 now).wf = true) :
    Calls Try.prog 12 #[.slice a m d, .int .i64 at', .int .i64 now] w fun e w' => e = .returned (.bool true) ∧ Below w.heap.size w w' := by
  by_cases hU : 30 < m ∨ packB m hs = false ∨ now < 0 ∨ 255 < now
  · exact PSp_out a m d hs at' now w B hBw hH.1 hU
  · have hm : m ≤ 30 := by apply Nat.le_of_not_lt; intro h; exact hU (.inl h)
    have hp : packB m hs = true := by cases h : packB m hs; exact absurd (.inr (.inl h)) hU; rfl
    have hn1 : 0 ≤ now := by apply Int.not_lt.1; intro h; exact hU (.inr (.inr (.inl h)))
    have hn2 : now ≤ 255 := by apply Int.not_lt.1; intro h; exact hU (.inr (.inr (.inr h)))
    by_cases ha : at' < 0 ∨ ((fileN m hs).length : Int) ≤ at'
    · exact PSp_off a m d hs at' now w B hBw hH.1 hm hp hn1 hn2 ha
    · obtain ⟨k, rfl⟩ := Int.eq_ofNat_of_zero_le (show 0 ≤ at' by omega)
      obtain ⟨y, rfl⟩ := Int.eq_ofNat_of_zero_le hn1
      have hk : k < (fileN m hs).length := by omega
      by_cases e : (fileN m hs).getD k 0 = y
      · exact PSp_same a m d hs k y w B hBw hH.1 hm hp (by omega) hk e
      · exact PSp_ne a m d hs k y w B hBw hH.1 hm hp (by omega) hk (fun h => e h.symm)
end Go.Proofs.Ytgcepjminlapiaa
