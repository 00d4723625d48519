/- The text of a plane word by word, of a file line by line. No program here. -/
import Derived.Test.YtegimepmccilfaaGreatDoorFpDat
namespace Go.Proofs.YtegimepmccilfaaGreatDoor
open Go.RowKit
set_option linter.unusedVariables false
set_option linter.unusedSimpArgs false
def wsOf (p : PR) : List Tx := viewT p.view :: ((nsOf p).map Lib.itoa ++ (drW (drOf p) ++ deW (deOf p)))
def txN (p : PR) (m : Nat) : Tx := kindT p.kind ++ (((wsOf p).take m).map (32 :: ·)).flatten
def drl (p : PR) : Nat := if p.dn = 0 then 0 else p.dn + 1
def del (p : PR) : Nat := if p.en = 0 then 0 else p.en + 1
theorem drOf_len (p : PR) : (drOf p).length = p.dn := by simp [drOf]
theorem deOf_len (p : PR) : (deOf p).length = p.en := by simp [deOf]
theorem drW_len (p : PR) : (drW (drOf p)).length = drl p := by
  unfold drW drl
  have := drOf_len p
  by_cases h : drOf p = []
  · rw [if_pos h, if_pos (by rw [h] at this; simp at this; omega)]; rfl
  · have : 0 < (drOf p).length := List.length_pos_iff.2 h
    rw [if_neg h, if_neg (by omega), List.length_cons, List.length_map, drOf_len]
theorem deW_len (p : PR) : (deW (deOf p)).length = del p := by
  unfold deW del
  have := deOf_len p
  by_cases h : deOf p = []
  · rw [if_pos h, if_pos (by rw [h] at this; simp at this; omega)]; rfl
  · have : 0 < (deOf p).length := List.length_pos_iff.2 h
    rw [if_neg h, if_neg (by omega), List.length_cons, List.length_map, deOf_len]
theorem ws_len (p : PR) : (wsOf p).length = 12 + drl p + del p := by
  have h1 : ((nsOf p).map Lib.itoa).length = 11 := rfl
  unfold wsOf
  rw [List.length_cons, List.length_append, List.length_append, drW_len, deW_len, h1]
  omega
theorem tx_step {p : PR} {m : Nat} (h : m < (wsOf p).length) : txN p (m + 1) = (txN p m ++ [32]) ++ (wsOf p).getD m [] := by
  unfold txN
  rw [List.take_add_one, List.getElem?_eq_getElem h, List.getD_eq_getElem?_getD, List.getElem?_eq_getElem h]
  show kindT p.kind ++ (((wsOf p).take m ++ [(wsOf p)[m]]).map (32 :: ·)).flatten = ((kindT p.kind ++ (((wsOf p).take m).map (32 :: ·)).flatten) ++ [32]) ++ (wsOf p)[m]
  rw [List.map_append, List.flatten_append, List.append_assoc, List.append_assoc]
  congr 2
  show 32 :: ((wsOf p)[m]) ++ [] = _
  rw [List.append_nil]
  rfl
theorem tx_end (p : PR) : txN p (12 + drl p + del p) = ppT (toPP p) := by
  unfold txN
  rw [← ws_len, List.take_length]
  rfl
theorem flat_take : ∀ (l : List Tx) (m : Nat), (((l.take m).map (32 :: ·)).flatten : Tx).length ≤ ((l.map (32 :: ·)).flatten : Tx).length
  | [], m => by simp
  | w :: l, 0 => by simp
  | w :: l, m + 1 => by
    have := flat_take l m
    rw [List.take_succ_cons, List.map_cons, List.map_cons, List.flatten_cons, List.flatten_cons, List.length_append, List.length_append]
    omega
theorem tx_len {p : PR} (h : PPB p) (m : Nat) : (txN p m).length ≤ 2000 := by
  have h1 := ppT_len h
  have h2 := flat_take (wsOf p) m
  have h3 : ppT (toPP p) = kindT p.kind ++ ((wsOf p).map (32 :: ·)).flatten := rfl
  rw [h3, List.length_append] at h1
  unfold txN
  rw [List.length_append]
  omega
theorem tx_one (p : PR) : txN p 1 = (kindT p.kind ++ [32]) ++ viewT p.view := by
  unfold txN wsOf
  simp
theorem ws_n {p : PR} {i : Nat} (h : i < 11) : (wsOf p).getD (1 + i) [] = Lib.itoa ((nsOf p).getD i 0) := by
  have h1 : ((nsOf p).map Lib.itoa).length = 11 := rfl
  unfold wsOf
  rw [Nat.add_comm, List.getD_cons_succ, List.getD_eq_getElem?_getD, List.getElem?_append_left (by omega), List.getElem?_map, List.getD_eq_getElem?_getD, List.getElem?_eq_getElem (show i < (nsOf p).length from h)]
  rfl
theorem ws_dr {p : PR} {i : Nat} (h : i < drl p) : (wsOf p).getD (12 + i) [] = (drW (drOf p)).getD i [] := by
  have h1 : ((nsOf p).map Lib.itoa).length = 11 := rfl
  have h2 := drW_len p
  unfold wsOf
  rw [show 12 + i = (11 + i) + 1 by omega, List.getD_cons_succ, List.getD_eq_getElem?_getD, List.getElem?_append_right (by omega), h1, show 11 + i - 11 = i by omega, List.getElem?_append_left (by omega), ← List.getD_eq_getElem?_getD]
theorem ws_de {p : PR} {i : Nat} (h : i < del p) : (wsOf p).getD (12 + drl p + i) [] = (deW (deOf p)).getD i [] := by
  have h1 : ((nsOf p).map Lib.itoa).length = 11 := rfl
  have h2 := drW_len p
  unfold wsOf
  rw [show 12 + drl p + i = (11 + (drl p + i)) + 1 by omega, List.getD_cons_succ, List.getD_eq_getElem?_getD, List.getElem?_append_right (by omega), h1, show 11 + (drl p + i) - 11 = drl p + i by omega, List.getElem?_append_right (by omega), h2, show drl p + i - drl p = i by omega, ← List.getD_eq_getElem?_getD]
theorem ws_d0 {p : PR} (h : 0 < p.dn) : (wsOf p).getD 12 [] = driftT := by
  have hd : drOf p ≠ [] := fun e => by have := drOf_len p; rw [e] at this; simp at this; omega
  have := ws_dr (p := p) (i := 0) (by unfold drl; rw [if_neg (by omega)]; omega)
  rw [this]
  unfold drW
  rw [if_neg hd]
  rfl
theorem ws_d {p : PR} {i : Nat} (h : i < p.dn) : (wsOf p).getD (13 + i) [] = drT (toDR (p.ds i)) := by
  have hd : drOf p ≠ [] := fun e => by have := drOf_len p; rw [e] at this; simp at this; omega
  have := ws_dr (p := p) (i := i + 1) (by unfold drl; rw [if_neg (by omega)]; omega)
  rw [show 13 + i = 12 + (i + 1) by omega, this]
  unfold drW
  rw [if_neg hd, List.getD_cons_succ, List.getD_eq_getElem?_getD, List.getElem?_map]
  unfold drOf
  rw [List.getElem?_map, List.getElem?_range h]
  rfl
theorem ws_e0 {p : PR} (h : 0 < p.en) : (wsOf p).getD (12 + drl p) [] = deadT := by
  have hd : deOf p ≠ [] := fun e => by have := deOf_len p; rw [e] at this; simp at this; omega
  have := ws_de (p := p) (i := 0) (by unfold del; rw [if_neg (by omega)]; omega)
  rw [Nat.add_zero] at this
  rw [this]
  unfold deW
  rw [if_neg hd]
  rfl
theorem ws_e {p : PR} {i : Nat} (h : i < p.en) : (wsOf p).getD (12 + drl p + 1 + i) [] = Lib.itoa (p.es i) := by
  have hd : deOf p ≠ [] := fun e => by have := deOf_len p; rw [e] at this; simp at this; omega
  have := ws_de (p := p) (i := i + 1) (by unfold del; rw [if_neg (by omega)]; omega)
  rw [show 12 + drl p + 1 + i = 12 + drl p + (i + 1) by omega, this]
  unfold deW
  rw [if_neg hd, List.getD_cons_succ, List.getD_eq_getElem?_getD, List.getElem?_map]
  unfold deOf
  rw [List.getElem?_map, List.getElem?_range h]
  rfl
/-- where the words stand after i steps of drift, of dead channels -/
def mD (i : Nat) : Nat := if i = 0 then 12 else 13 + i
def mE (p : PR) (i : Nat) : Nat := if i = 0 then 12 + drl p else 12 + drl p + 1 + i
theorem mD_end (p : PR) : mD p.dn = 12 + drl p := by
  unfold mD drl
  split <;> omega
theorem mE_end (p : PR) : mE p p.en = 12 + drl p + del p := by
  unfold mE del
  split <;> omega
/-- a file's text after k lines -/
def ftN (n : Nat) (ps : Nat → PR) (k : Nat) : Tx := ((setupT ++ Lib.itoa (n : Int)) ++ [10]) ++ ((List.range k).map (fun i => ppT (toPP (ps i)) ++ [10])).flatten
theorem ft_step (n : Nat) (ps : Nat → PR) (k : Nat) : ftN n ps (k + 1) = (ftN n ps k ++ ppT (toPP (ps k))) ++ [10] := by
  unfold ftN
  rw [List.range_succ]
  simp
theorem ft_zero (n : Nat) (ps : Nat → PR) : ftN n ps 0 = (setupT ++ Lib.itoa (n : Int)) ++ [10] := by
  unfold ftN
  simp
theorem ft_end (n : Nat) (ps : Nat → PR) : ftN n ps n = filT (ppsOf n ps) := by
  unfold ftN filT ppsOf
  rw [List.length_map, List.length_range, List.map_map]
  simp
  rfl
theorem ft_len {n : Nat} {ps : Nat → PR} (h : checkB n ps = true) {k : Nat} (hk : k ≤ n) : (ftN n ps k).length ≤ 40000 := by
  have h1 := filT_len h
  rw [← ft_end] at h1
  have key : ∀ j, (ftN n ps k).length ≤ (ftN n ps (k + j)).length := by
    intro j
    induction j with
    | zero => exact Nat.le_refl _
    | succ j ih =>
      rw [← Nat.add_assoc, ft_step, List.length_append, List.length_append]
      omega
  have := key (n - k)
  rw [show k + (n - k) = n by omega] at this
  omega
end Go.Proofs.YtegimepmccilfaaGreatDoor
