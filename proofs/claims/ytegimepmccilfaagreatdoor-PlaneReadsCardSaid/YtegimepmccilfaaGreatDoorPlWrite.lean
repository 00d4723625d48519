/- strings.Builder's writing: what it leaves alone; Print$1 writes two words. -/
import Derived.Test.YtegimepmccilfaaGreatDoorPlBuild
import Derived.Test.YtegimepmccilfaaGreatDoorPlShelf
import Derived.Test.YtegimepmccilfaaGreatDoorFpTx
import Derived.Lib.AppendIntMem
namespace Go.Proofs.YtegimepmccilfaaGreatDoor
open Go.RowKit
set_option linter.unusedVariables false
set_option linter.unusedSimpArgs false
/-- all blocks but builders and bytes stay as they are -/
def KB (w w' : World) : Prop := w.heap.size ≤ w'.heap.size ∧ ∀ (j : Nat) (cs : Array Value) (ty : TypeId) (fz : Nat × Nat), w.heap[j]? = some (.cells cs ty fz) → ty ≠ 5 → ty ≠ 59 → w'.heap[j]? = some (.cells cs ty fz)
theorem KB.refl (w : World) : KB w w := ⟨Nat.le_refl _, fun _ _ _ _ h _ _ => h⟩
theorem KB.trans {a b c : World} (h : KB a b) (k : KB b c) : KB a c := ⟨Nat.le_trans h.1 k.1, fun j cs ty fz h1 h2 h3 => k.2 j cs ty fz (h.2 j cs ty fz h1 h2 h3) h2 h3⟩
theorem KB.of_below {a b : World} (h : Below a.heap.size a b) : KB a b := ⟨h.size, fun j cs ty fz h1 h2 h3 => (h.block j (Array.getElem?_eq_some_iff.1 h1).1).trans h1⟩
theorem KB.set {a : World} {b : Nat} {cs : Array Value} {fz : Nat × Nat} (hb : a.heap[b]? = some (.cells cs 59 fz)) (j : Nat) (v : Value) : KB a (a.setCell ⟨b, j, none⟩ v) := by
  refine ⟨by simp [World.setCell], fun k cs' ty fz' h1 h2 h3 => ?_⟩
  have hne : k ≠ b := fun e => by
    subst e
    rw [h1] at hb
    simp only [Option.some.injEq, Obj.cells.injEq] at hb
    exact h3 hb.2.1
  exact (Below.heap_setCell a _ _ _ hne).trans h1
theorem KB.grown {a b : World} {B : Nat} {v : Value} {n : Nat} {xs : List Value} (hg : a.grownBy b v.ownBlock) (hown : a.ownsRow B 5 1 v n xs) : KB a b := by
  refine ⟨hg.size, fun k cs ty fz h1 h2 h3 => ?_⟩
  exact (hg.block k (Array.getElem?_eq_some_iff.1 h1).1 (fun e => Lib.ownBlock_ne hown h1 h2 e.symm)).trans h1
theorem copyCheck_keep (B b : Nat) (bs : List Value) (w : World) (h : Lib.IsBuilder 59 5 B b bs w) :
    Calls Tryz.prog 40 #[.pointer (some ⟨b, 0, none⟩)] w fun e w' => e = .returned (.tuple #[]) ∧ (Lib.BuilderAt 59 5 B b (.pointer (some ⟨b, 0, none⟩)) bs w' ∧ Below B w w') ∧ KB w w' := by
  rcases h with h | h
  · refine (copyCheck_fresh b w h.cell0 h.shape h.frozen0).mono ?_
    rintro e w' ⟨rfl, rfl⟩
    obtain ⟨h1, v, h2, _⟩ := id h
    exact ⟨rfl, ⟨h.used _, (Below.refl B w).setCell (p := ⟨b, 0, none⟩) h.1 _⟩, KB.set h2 _ _⟩
  · refine (copyCheck_used b w h.cell0).mono ?_
    rintro e w' ⟨rfl, rfl⟩
    exact ⟨rfl, ⟨h, Below.refl B _⟩, KB.refl _⟩
set_option maxHeartbeats 2000000 in
set_option maxRecDepth 100000 in
theorem writeString_keep (B b : Nat) (bs : List Value) (s : ByteArray) (w : World) (h : Lib.IsBuilder 59 5 B b bs w) (hlen : bs.length + s.size ≤ 140737488355328) (hBw : B ≤ w.heap.size) :
    Calls Tryz.prog 20 #[.pointer (some ⟨b, 0, none⟩), .string s] w fun e w' => e = .returned (.tuple #[.int .i64 s.size, .nilIface]) ∧ (Lib.IsBuilder 59 5 B b (bs ++ Lib.strCells s) w' ∧ Below B w w') ∧ KB w w' := by
  obtain ⟨i0, hi, hz0, hz1, hz2⟩ := info_parts info_byte
  go_enter Tryz.func20, Tryz.ntmps20
  go_wp2_with (go_at_call 40; refine (copyCheck_keep B b bs _ h).mono ?_)
  rintro e w1 ⟨rfl, ⟨h1, hb1⟩, hk1⟩
  obtain ⟨hB, v, hbk, hown, hne⟩ := h1
  have HK1 := Lib.hid hk1
  clear hk1
  have c1 : w1.cell? ⟨b, 1, none⟩ = some v := by rw [Lib.cell_of_heap hbk]; rfl
  have hsz := hb1.size
  have hlt : b < w1.heap.size := (Array.getElem?_eq_some_iff.1 hbk).1
  go_wp2_with (at_builtin; refine Lib.wpList_append_own_string _ rfl _ _ 57 9 rfl B 5 i0 Tryz.underlying57 Tryz.underlying9 hi hz0 hz1 hz2 _ _ _ rfl hown s rfl ?c3 ?c4 ?c5 ?_)
  case c3 => unfold maxLen; omega
  case c4 => omega
  case c5 => omega
  intro v' w2 hown' hgrow _
  have hb2 : w2.heap[b]? = some (.cells #[.pointer (some ⟨b, 0, none⟩), v] 59 (0, 0)) := (hgrow.block b hlt (fun e => hne e.symm)).trans hbk
  have HK2 := Lib.hid (HK1.out.trans (KB.grown hgrow hown))
  have HK3 := Lib.hid (fun u => HK2.out.trans (KB.set hb2 1 u))
  have d1 : w2.cell? ⟨b, 1, none⟩ = some v := by rw [Lib.cell_of_heap hb2]; rfl
  have f1 : w2.frozen? ⟨b, 1, none⟩ = false := Lib.frozen_of_heap hb2 1
  obtain ⟨ao, cap, rfl⟩ := own_len hown'
  go_wp2
  go_ret2
  exact ⟨rfl, ⟨.inr (Lib.BuilderAt.put (T := 59) (e := 5) hB hb2 (bs' := bs ++ Lib.strCells s) (by simpa [Lib.strCells_length] using hown') (by decide)), (hb1.grown hgrow (by omega) (fun k hk => own_from hown hk)).setCell (p := ⟨b, 1, none⟩) hB _⟩, HK3.out _⟩
/-- the builder holds a text; what lay there is kept -/
def PW (kb : Nat) (T : Tx) (w : World) : Prop := Lib.IsBuilder 59 5 kb kb (Lib.byteCells T) w
theorem PW.below {kb : Nat} {T : Tx} {w w' : World} (h : PW kb T w) (hb : Below w.heap.size w w') : PW kb T w' := by
  have key : ∀ p, Lib.BuilderAt 59 5 kb kb p (Lib.byteCells T) w → Lib.BuilderAt 59 5 kb kb p (Lib.byteCells T) w' := fun p h => by
    have hlt := h.lt
    obtain ⟨h1, v, h2, h3, h4⟩ := h
    exact ⟨h1, v, (hb.block kb hlt).trans h2, own_below h3 hb, h4⟩
  exact Or.elim h (fun h => .inl (key _ h)) (fun h => .inr (key _ h))
theorem PW.le {kb : Nat} {T : Tx} {w : World} (h : PW kb T w) : kb ≤ w.heap.size := by
  rcases h with h | h
  · exact Nat.le_of_lt h.lt
  · exact Nat.le_of_lt h.lt
theorem pl_size (l : Tx) : ByteArray.size ⟨l.toArray⟩ = l.length := by simp [ByteArray.size]
theorem write_any {kb : Nat} {T : Tx} {w : World} (h : PW kb T w) (S : Tx) (hl : (T ++ S).length ≤ 100000) :
    Calls Tryz.prog 20 #[.pointer (some ⟨kb, 0, none⟩), .string ⟨S.toArray⟩] w fun e w' => e = .returned (.tuple #[.int .i64 S.length, .nilIface]) ∧ PW kb (T ++ S) w' ∧ Below kb w w' ∧ KB w w' := by
  rw [List.length_append] at hl
  refine (writeString_keep kb kb (Lib.byteCells T) ⟨S.toArray⟩ w h (by rw [Lib.byteCells_length, pl_size]; omega) h.le).mono ?_
  rintro e w' ⟨rfl, ⟨h1, h2⟩, h3⟩
  rw [pl_size]
  refine ⟨rfl, ?_, h2, h3⟩
  unfold PW
  rw [Lib.byteCells_append]
  exact h1
theorem join_two (bk : Nat) (X1 X2 : Tx) (w : World) (c0 : w.cell? ⟨bk, 0, none⟩ = some (.string ⟨X1.toArray⟩)) (c1 : w.cell? ⟨bk, 1, none⟩ = some (.string ⟨X2.toArray⟩)) (hl : (X1 ++ [32] ++ X2).length ≤ 100000) :
    Calls Tryz.prog 21 #[.slice (some ⟨bk, 0, none⟩) 2 2, .string ⟨#[32]⟩] w fun e w' => e = .returned (.string ⟨(X1 ++ [32] ++ X2).toArray⟩) ∧ Below w.heap.size w w' := by
  have hj : Lib.join (([⟨X1.toArray⟩, ⟨X2.toArray⟩] : List ByteArray).map (·.data.toList)) (⟨#[32]⟩ : ByteArray).data.toList = X1 ++ [32] ++ X2 := by
    simp [Lib.join_cons, Lib.joinTail]
  have hbk : bk < w.heap.size := World.block_lt_of_cell? w _ c0
  have := Tryz.strings_Join bk 0 2 [⟨X1.toArray⟩, ⟨X2.toArray⟩] ⟨#[32]⟩ w (fun j x hx => by
    match j, hx with
    | 0, hx => cases hx; exact c0
    | 1, hx => cases hx; exact c1
    | j + 2, hx => cases hx) hbk (by simp) (by simp) (by rw [hj]; omega)
  rw [hj] at this
  exact this
set_option maxHeartbeats 1000000 in
set_option maxRecDepth 100000 in
theorem words_any {kb : Nat} {T : Tx} {w : World} (h : PW kb T w) (bk : Nat) (X1 X2 : Tx) (c0 : w.cell? ⟨bk, 0, none⟩ = some (.string ⟨X1.toArray⟩)) (c1 : w.cell? ⟨bk, 1, none⟩ = some (.string ⟨X2.toArray⟩)) (hl : (T ++ (X1 ++ [32] ++ X2)).length ≤ 100000) :
    Calls Tryz.prog 19 #[.slice (some ⟨bk, 0, none⟩) 2 2, .pointer (some ⟨kb, 0, none⟩)] w fun e w' => e = .returned (.tuple #[]) ∧ PW kb (T ++ (X1 ++ [32] ++ X2)) w' ∧ Below kb w w' ∧ KB w w' := by
  have HJ := Lib.hid (join_two bk X1 X2 w c0 c1 (by rw [List.length_append] at hl; omega))
  have HP := Lib.hid h
  generalize X1 ++ [32] ++ X2 = S at *
  clear h c0 c1
  go_enter Tryz.func19, Tryz.ntmps19
  go_wp2_with (first | (go_at_call 21; refine HJ.out.mono ?_; rintro e w1 ⟨rfl, hb1⟩; have HB1 := Lib.hid hb1; have HW := Lib.hid (write_any (HP.out.below hb1) S hl)) | (go_at_call 20; refine HW.out.mono ?_; rintro e w2 ⟨rfl, h2, hb2, hk2⟩))
  go_end0
  exact ⟨rfl, h2, (HB1.out.mono HP.out.le).trans hb2, (KB.of_below HB1.out).trans hk2⟩
theorem pitoa_any (x : Int) (h : -9999999999 ≤ x ∧ x ≤ 9999999999) (w : World) (htab : Lib.TabIs Tryz.prog w "internal/strconv.uint64pow10" .u64 Lib.pow10Tab) :
    Calls Tryz.prog 22 #[.int .i64 x] w fun e w' => e = .returned (.string ⟨(Lib.itoa x).toArray⟩) ∧ Below w.heap.size w w' :=
  (Tryz.strconv_Itoa x (by omega) (by omega) w htab).mono fun e w' h => by
    obtain ⟨rfl, k, os, rfl⟩ := h
    exact ⟨rfl, Lib.below_grow _ _ (Nat.le_refl _) _ _⟩
end Go.Proofs.YtegimepmccilfaaGreatDoor
