/- A file of which one byte was changed can't be read. No program here. -/
import Derived.Test.YtgcepjminlapiaaPackE
namespace Go.Proofs.Ytgcepjminlapiaa
set_option linter.unusedVariables false
set_option linter.unusedSimpArgs false
theorem spoilt_law {body : List Nat} (hb : ∀ x ∈ body, x < 256) (hl : body.length ≤ 2000) {at' now : Nat} {f : Nat → Nat} (hat : at' < body.length + 2) (hnow : now < 256)
    (hne : now ≠ (body ++ [chkL body / 256, chkL body % 256]).getD at' 0) (hf : ∀ i, f i = if i = at' then now else (body ++ [chkL body / 256, chkL body % 256]).getD i 0) : ¬ headOk f (body.length + 2) := by
  rintro ⟨_, h1, h2⟩
  have e0 : body.length + 2 - 2 = body.length := by omega
  have e1 : body.length + 2 - 1 = body.length + 1 := by omega
  rw [e0] at h1 h2
  rw [e1] at h2
  have g0 : ∀ i, i < body.length → (body ++ [chkL body / 256, chkL body % 256]).getD i 0 = body.getD i 0 := fun i hi => by
    rw [List.getD_eq_getElem?_getD, List.getElem?_append_left hi, List.getD_eq_getElem?_getD]
  have g1 : (body ++ [chkL body / 256, chkL body % 256]).getD body.length 0 = chkL body / 256 := by
    rw [List.getD_eq_getElem?_getD, List.getElem?_append_right (Nat.le_refl _)]; simp
  have g2 : (body ++ [chkL body / 256, chkL body % 256]).getD (body.length + 1) 0 = chkL body % 256 := by
    rw [List.getD_eq_getElem?_getD, List.getElem?_append_right (by omega)]; simp
  have hC : chkN (fun i => (body ++ [chkL body / 256, chkL body % 256]).getD i 0) body.length = chkL body := chkN_congr _ g0
  generalize hF : (fun i => (body ++ [chkL body / 256, chkL body % 256]).getD i 0) = F at hC
  have hF' : ∀ i, (body ++ [chkL body / 256, chkL body % 256]).getD i 0 = F i := fun i => congrFun hF i
  simp only [hF'] at hne hf g0 g1 g2
  by_cases c1 : at' < body.length
  · have hx := chkN_spoilt (f := f) (g := F) (j := at') hl c1 (fun i hi => by rw [hf, if_neg hi]) (by rw [hf, if_pos rfl]; exact hnow) (by rw [g0 _ c1]; exact getD_byte hb _) (by rw [hf, if_pos rfl]; exact hne)
    rw [hf, if_neg (by omega), g1] at h1
    rw [hf, if_neg (by omega), g2] at h2
    rw [hC] at hx
    omega
  · have hx : chkN f body.length = chkL body := by
      rw [← hC]; exact chkN_congr _ (fun i hi => by rw [hf, if_neg (by omega)])
    rw [hx] at h1 h2
    by_cases c2 : at' = body.length
    · rw [hf, if_pos c2.symm] at h1
      rw [c2, g1] at hne
      exact hne h1.symm
    · have c3 : at' = body.length + 1 := by omega
      rw [hf, if_pos c3.symm] at h2
      rw [c3, g2] at hne
      exact hne h2.symm
theorem fileN_byte {m : Nat} {hs : Nat → HV} : ∀ x ∈ fileN m hs, x < 256 := by
  intro x hx
  have hc : chkL (bodyN m hs m) < 65521 := chkN_lt _ _
  simp only [fileN, List.mem_append, List.mem_cons, List.not_mem_nil, or_false] at hx
  rcases hx with h | h | h
  · exact bodyN_byte x h
  · omega
  · omega
theorem fileN_spoilt {m : Nat} {hs : Nat → HV} (hm : m ≤ 30) (hp : packB m hs = true) {k y : Nat} (hy : y < 256) (hk : k < (fileN m hs).length) (hne : y ≠ (fileN m hs).getD k 0) : ¬ headOk (fun i => if i = k then y else (fileN m hs).getD i 0) (fileN m hs).length := by
  have h1 := bodyN_len (allUpto_iff.1 hp) (show m ≤ 2000 by omega) (Nat.le_refl m)
  have hl : (fileN m hs).length = (bodyN m hs m).length + 2 := by simp [fileN]
  rw [hl] at hk ⊢
  exact spoilt_law (body := bodyN m hs m) bodyN_byte (by omega) hk hy hne (fun i => rfl)
end Go.Proofs.Ytgcepjminlapiaa
