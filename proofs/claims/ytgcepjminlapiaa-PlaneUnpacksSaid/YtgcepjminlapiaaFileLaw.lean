/- A file that was packed is read as its hits. No program here. -/
import Derived.Test.YtgcepjminlapiaaPackJ
namespace Go.Proofs.Ytgcepjminlapiaa
open Go.RowKit
set_option linter.unusedVariables false
set_option linter.unusedSimpArgs false
def hList (hs : Nat → HV) (m : Nat) : List HV := (List.range m).map hs
theorem hList_len (hs : Nat → HV) (m : Nat) : (hList hs m).length = m := by simp [hList]
theorem hList_get {hs : Nat → HV} {m i : Nat} (h : i < m) (z : HV) : (hList hs m).getD i z = hs i := by simp [hList, h]
theorem hList_succ (hs : Nat → HV) (m : Nat) : hList hs (m + 1) = hList hs m ++ [hs m] := by simp [hList, List.range_succ]
theorem packHs_append : ∀ (a b : List HV) (last : Int), packHs last (a ++ b) = packHs last a ++ packHs (a.getLastD ⟨0, 0, 0, 0, 0, last⟩).time b
  | [], b, last => by simp [packHs]
  | [h], b, last => by simp [packHs]
  | h :: h2 :: t, b, last => by
    rw [List.cons_append, packHs, packHs_append (h2 :: t) b h.time, packHs, List.append_assoc]
    simp [List.getLastD, packHs]
theorem hList_last : ∀ (hs : Nat → HV) (m : Nat), ((hList hs m).getLastD ⟨0, 0, 0, 0, 0, 0⟩).time = lastT hs m
  | hs, 0 => rfl
  | hs, m + 1 => by rw [hList_succ]; simp [lastT]
theorem packHs_N (hs : Nat → HV) : ∀ m, packHs 0 (hList hs m) = packN hs m
  | 0 => rfl
  | m + 1 => by
    rw [hList_succ, packHs_append, packHs_N hs m, packN, hList_last]
    simp [packHs]
theorem packL_list {hs : Nat → HV} {m : Nat} (hp : packB m hs = true) : packL (hList hs m) = true := by
  unfold packL
  rw [hList_len]
  exact allUpto_true (fun i hi => by simp only [hList_get hi]; exact allUpto_iff.1 hp i hi)
theorem file_len (m : Nat) (hs : Nat → HV) : (fileN m hs).length = (bodyN m hs m).length + 2 := by simp [fileN]
theorem file_body {m : Nat} {hs : Nat → HV} {i : Nat} (hi : i < (bodyN m hs m).length) : (fileN m hs).getD i 0 = (bodyN m hs m).getD i 0 := by
  rw [fileN, List.getD_eq_getElem?_getD, List.getElem?_append_left hi, List.getD_eq_getElem?_getD]
theorem file_unpL {m : Nat} {hs : Nat → HV} (hm : m ≤ 30) (hp : packB m hs = true) : unpL (bodyN m hs m) = some (hList hs m) := by
  have hpa : ∀ h ∈ hList hs m, packableB h = true := by
    intro h hh
    simp [hList] at hh
    obtain ⟨i, hi, rfl⟩ := hh
    exact allUpto_iff.1 hp i hi
  have := unpL_pack (head := [79, 86, 69, 49]) (m := m) (hs := hList hs m) rfl (by intro x hx; simp at hx; omega) (hList_len hs m).symm (by omega) hpa
  rw [packHs_N, ← List.append_assoc] at this
  exact this
theorem file_head {m : Nat} {hs : Nat → HV} (hm : m ≤ 30) (hp : packB m hs = true) : headOk (fun i => (fileN m hs).getD i 0) (fileN m hs).length := by
  have hl := file_len m hs
  have h5 : 5 ≤ (bodyN m hs m).length := by
    have h2 := (grp_len 4 m (by have : (128 : Nat) ^ (4 + 1) = 34359738368 := (by decide); omega)).1
    simp [bodyN]; omega
  refine ⟨⟨?_, ?_, ?_, ?_⟩, ?_⟩
  · dsimp only; rw [file_body (by omega)]; simp [bodyN]
  · dsimp only; rw [file_body (by omega)]; simp [bodyN]
  · dsimp only; rw [file_body (by omega)]; simp [bodyN]
  · dsimp only; rw [file_body (by omega)]; simp [bodyN]
  · have e0 : (fileN m hs).length - 2 = (bodyN m hs m).length := by omega
    have e1 : (fileN m hs).length - 1 = (bodyN m hs m).length + 1 := by omega
    have hc : chkN (fun i => (fileN m hs).getD i 0) (bodyN m hs m).length = chkL (bodyN m hs m) := chkN_congr _ (fun i hi => file_body hi)
    rw [e0, e1, hc]
    refine ⟨?_, ?_⟩
    · dsimp only; rw [fileN, List.getD_eq_getElem?_getD, List.getElem?_append_right (Nat.le_refl _)]; simp
    · dsimp only; rw [fileN, List.getD_eq_getElem?_getD, List.getElem?_append_right (by omega)]; simp
theorem file_is {m : Nat} {hs : Nat → HV} (hm : m ≤ 30) (hp : packB m hs = true) (h1 : (fileN m hs).length ≤ 1000) (h7 : 7 ≤ (fileN m hs).length) : UnpackIs (fileN m hs).length (fun i => (fileN m hs).getD i 0) (bodyN m hs m) 0 (hList hs m) :=
  .inr (.inr (.inr ⟨h1, h7, file_head hm hp, .inr ⟨hList hs m, file_unpL hm hp, .inr ⟨packL_list hp, rfl, rfl⟩⟩⟩))
theorem Hits.congr {B : Nat} {w : World} {a : Option Addr} {n : Nat} {f g : Nat → HV} (h : Hits B w a n f) (e : ∀ i, i < n → f i = g i) : Hits B w a n g := by
  refine ⟨h.1, ?_⟩
  rcases h.2 with h | ⟨b, off, ha, hB, hc⟩
  · exact .inl h
  · exact .inr ⟨b, off, ha, hB, fun i hi => by rw [← e i hi]; exact hc i hi⟩
end Go.Proofs.Ytgcepjminlapiaa
