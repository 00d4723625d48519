/- Texts put together: PlNum, PlCur, PlPm. -/
import Derived.Test.YtegimepmccilfaaGreatDoorPlWrite
import Derived.Test.YtegimepmccilfaaGreatDoorPlaneA
import Derived.Test.YtegimepmccilfaaGreatDoorGpA
import Derived.Lib.SmallJoins
import Derived.Lib.FieldsLaws
import Derived.Deep.CutBlock
import Derived.Test.YtegimepmccilfaaGreatDoorRowOwn
import Derived.Test.YtegimepmccilfaaGreatDoorFpDat
namespace Go.Proofs.YtegimepmccilfaaGreatDoor
open Go.RowKit
set_option linter.unusedVariables false
set_option linter.unusedSimpArgs false
/-- the panic by which reading is given up -/
abbrev wrP : List PanicEntry := [{ v := .iface 100 (.agg #[]), recovered := false }]
@[go_sem] theorem tx_toList (l : Tx) : (⟨l.toArray⟩ : ByteArray).toList = l := by
  rw [ByteArray.toList_eq]
@[go_sem] theorem tx_get0 (c : UInt8) (r : Tx) (h : 0 < (⟨(c :: r).toArray⟩ : ByteArray).size) : (⟨(c :: r).toArray⟩ : ByteArray)[0]'h = c := rfl
theorem atoi_some {w : Tx} (h1 : 1 ≤ (Lib.trimPrefix w [45]).length ∧ (Lib.trimPrefix w [45]).length ≤ 10) (h2 : (Lib.trimPrefix w [45]).all dgB = true) : ∃ n, Lib.atoi w = some n := by
  obtain ⟨u, hu, _⟩ := nm_ref h1.1 h1.2 h2
  have hn := dec_nat_some h1.1 hu
  rcases trim_minus w with ⟨d, e1, e2⟩ | ⟨e1, e2⟩
  · rw [e2] at hn
    rw [e1, atoi_neg, hn]
    exact ⟨_, rfl⟩
  · rw [e2] at hn h1 h2
    rw [atoi_digits h2 h1.1, hn]
    exact ⟨_, rfl⟩
theorem info_set : (Tryz.prog.info? 142).map (fun i => (i.zero, i.size)) = some (some (.agg (Array.replicate 256 (.bool false))), 256) := by kernel_rfl
theorem ptrim_any (d : Tx) (hd : d.length ≤ 100000) (w : World) :
    Calls Tryz.prog 72 #[.string ⟨d.toArray⟩, .string ⟨#[48, 49, 50, 51, 52, 53, 54, 55, 56, 57]⟩] w fun e w' => e = .returned (.string ⟨(Lib.trimS d digsT).toArray⟩) ∧ Below w.heap.size w w' := by
  have := Any.strings_Trim_laid Tryz.lays160 info_set ⟨d.toArray⟩ ⟨digsT.toArray⟩ w (by rw [pl_size]; omega) (by rw [pl_size]; decide) (ascii_of_all (by decide))
  exact this
theorem ptp_any (x : Tx) (w : World) :
    Calls Tryz.prog 71 #[.string ⟨x.toArray⟩, .string ⟨#[45]⟩] w fun e w' => e = .returned (.string ⟨(Lib.trimPrefix x [45]).toArray⟩) ∧ w = w' :=
  (Tryz.strings_TrimPrefix ⟨x.toArray⟩ ⟨#[45]⟩ w).mono fun e w' h => ⟨h.1, h.2.symm⟩
theorem patoi_any (x : Tx) (n : Int) (hl : x.length ≤ 18) (h : Lib.atoi x = some n) (w : World) :
    Calls Tryz.prog 73 #[.string ⟨x.toArray⟩] w fun e w' => e = .returned (.tuple #[.int .i64 n, .nilIface]) ∧ Below w.heap.size w w' :=
  (Tryz.strconv_Atoi ⟨x.toArray⟩ n (by rw [pl_size]; exact hl) h w).mono fun e w' h => by
    obtain ⟨rfl, t, rfl⟩ := h
    exact ⟨rfl, Joins.below_bytesWorld _ _ _ _ (Nat.le_refl _)⟩
def NumRes (x : Tx) (w : World) (e : Ending) (w' : World) : Prop := Below w.heap.size w w' ∧ match nmR x with
  | none => e = .panicked wrP
  | some n => e = .returned (.int .i64 n)
set_option maxRecDepth 100000 in
set_option maxHeartbeats 1000000 in
theorem number_any (x : Tx) (hx : x.length ≤ 60000) (w : World) : Calls Tryz.prog 52 #[.string ⟨x.toArray⟩] w (NumRes x w) := by
  have HP := Lib.hid (fun (e : Ending) (w' : World) (h : nmR x = none) (hb : Below w.heap.size w w') (he : e = .panicked wrP) => show NumRes x w e w' from ⟨hb, by rw [h]; exact he⟩)
  have HS := Lib.hid (fun (e : Ending) (w' : World) (n : Int) (h : nmR x = some n) (hb : Below w.heap.size w w') (he : e = .returned (.int .i64 n)) => show NumRes x w e w' from ⟨hb, by rw [h]; exact he⟩)
  generalize NumRes x w = RES at *
  have HTP := Lib.hid (ptp_any x w)
  have hdl : (Lib.trimPrefix x [45]).length ≤ x.length ∧ x.length ≤ (Lib.trimPrefix x [45]).length + 1 := by
    rcases trim_minus x with ⟨d, e1, e2⟩ | ⟨e1, e2⟩ <;> rw [e2]
    · rw [e1]; simp
    · omega
  have HTR := Lib.hid (ptrim_any (Lib.trimPrefix x [45]) (by omega) w)
  have HWI := Lib.hid (fun (W : World) => within_any ((Lib.trimPrefix x [45]).length : Int) 1 10 W)
  have HTD := Lib.hid (trim_digs (Lib.trimPrefix x [45]))
  have HSO := Lib.hid (@atoi_some x)
  have HAT := Lib.hid (fun n (hl : x.length ≤ 18) (h : Lib.atoi x = some n) (W : World) => patoi_any x n hl h W)
  have HNM := Lib.hid (show nmR x = if (1 ≤ (Lib.trimPrefix x [45]).length ∧ (Lib.trimPrefix x [45]).length ≤ 10) ∧ (Lib.trimPrefix x [45]).all dgB = true ∧ ¬ ((Lib.trimPrefix x [45]).getD 0 0 = 48 ∧ x ≠ [48]) then Lib.atoi x else none from rfl)
  generalize Lib.trimPrefix x [45] = d at *
  have hsz : (⟨d.toArray⟩ : ByteArray).size = d.length := pl_size d
  by_cases h1 : 1 ≤ d.length ∧ d.length ≤ 10
  case neg =>
    have hw : withinB (d.length : Int) 1 10 = false := by
      rw [← Bool.not_eq_true, withinB_iff]; omega
    rw [hw] at HWI
    rw [if_neg (fun h => h1 h.1)] at HNM
    clear h1 hdl
    go_enter Tryz.func52, Tryz.ntmps52
    go_wp2_with (first | (go_at_call 71; refine HTP.out.mono ?_; rintro e w' ⟨rfl, rfl⟩) | (go_at_call 36; refine (HWI.out _).mono ?_; rintro e w' ⟨rfl, rfl⟩))
    simp only [bodyPost]
    exact ⟨trivial, HP.out _ _ HNM.out (Below.refl _ _) rfl⟩
  case pos =>
    have hw : withinB (d.length : Int) 1 10 = true := by rw [withinB_iff]; omega
    rw [hw] at HWI
    obtain ⟨c, r, rfl⟩ : ∃ c r, d = c :: r := by
      cases d with
      | nil => simp at h1
      | cons c r => exact ⟨c, r, rfl⟩
    have hq : Lib.trimS (c :: r) digsT = [] ↔ (c :: r).all dgB = true := HTD.out
    generalize Lib.trimS (c :: r) digsT = Q at *
    by_cases h2 : (c :: r).all dgB = true
    case neg =>
      rw [if_neg (fun h => h2 h.2.1)] at HNM
      have hq1 : ¬ Q = [] := fun e => h2 (hq.1 e)
      have hq2 : (Q == []) = false := by simpa using hq1
      clear h2 hdl hq hw h1
      go_enter Tryz.func52, Tryz.ntmps52
      go_wp2_with (first | (go_at_call 71; refine HTP.out.mono ?_; rintro e w' ⟨rfl, rfl⟩) | (go_at_call 36; refine (HWI.out _).mono ?_; rintro e w' ⟨rfl, rfl⟩) | (go_at_call 72; refine HTR.out.mono ?_; rintro e w' ⟨rfl, hb'⟩))
      simp only [bodyPost]
      exact ⟨trivial, HP.out _ _ HNM.out hb' rfl⟩
    case pos =>
      have hq2 : Q = [] := hq.2 h2
      subst hq2
      obtain ⟨n, hn⟩ := HSO.out h1 h2
      have HAT2 := Lib.hid (HAT.out n (by omega) hn)
      have HN2 : nmR x = if ¬ (c = 48 ∧ x ≠ [48]) then Lib.atoi x else none := by
        rw [HNM.out]
        by_cases h : c = 48 ∧ x ≠ [48]
        · rw [if_neg (fun k => k.2.2 h), if_neg (fun k => k h)]
        · rw [if_pos ⟨h1, h2, h⟩, if_pos h]
      rw [hn] at HN2
      have hci : ByteArray.get! ⟨(c :: r).toArray⟩ 0 = c := rfl
      have hsz2 : (⟨(c :: r).toArray⟩ : ByteArray).size = r.length + 1 := rfl
      clear HNM HSO HAT hn h2 hq hdl hw HTD hsz
      by_cases h3 : c = 48
      · have hcb : ((c.toNat : Int) == 48) = true := by rw [h3]; rfl
        by_cases h4 : x = [48]
        · have HN3 := Lib.hid (show nmR x = some n by rw [HN2, if_pos (fun h => h.2 h4)])
          have h4' : (x == [48]) = true := by simpa using h4
          clear HN2 h4 h3
          go_enter Tryz.func52, Tryz.ntmps52
          go_wp2_with (first | (go_at_call 71; refine HTP.out.mono ?_; rintro e w' ⟨rfl, rfl⟩) | (go_at_call 36; refine (HWI.out _).mono ?_; rintro e w' ⟨rfl, rfl⟩) | (go_at_call 72; refine HTR.out.mono ?_; rintro e w' ⟨rfl, hb'⟩) | (go_at_call 73; refine (HAT2.out _).mono ?_; rintro e w'' ⟨rfl, hb''⟩))
          exact HS.out _ _ n HN3.out (hb'.trans (hb''.mono hb'.size)) rfl
        · have HN3 := Lib.hid (show nmR x = none by rw [HN2, if_neg (fun h => h ⟨h3, h4⟩)])
          have h4' : (x == [48]) = false := by simpa using h4
          clear HN2 h4 h3
          go_enter Tryz.func52, Tryz.ntmps52
          go_wp2_with (first | (go_at_call 71; refine HTP.out.mono ?_; rintro e w' ⟨rfl, rfl⟩) | (go_at_call 36; refine (HWI.out _).mono ?_; rintro e w' ⟨rfl, rfl⟩) | (go_at_call 72; refine HTR.out.mono ?_; rintro e w' ⟨rfl, hb'⟩) | (go_at_call 73; refine (HAT2.out _).mono ?_; rintro e w'' ⟨rfl, hb''⟩))
          simp only [bodyPost]
          exact ⟨trivial, HP.out _ _ HN3.out hb' rfl⟩
      · have hcb : ((c.toNat : Int) == 48) = false := by
          rw [beq_eq_false_iff_ne]
          intro e
          exact h3 (UInt8.toNat_inj.1 (by have : (48 : UInt8).toNat = 48 := rfl; omega))
        have HN3 := Lib.hid (show nmR x = some n by rw [HN2, if_pos (fun h => h3 h.1)])
        clear HN2 h3
        go_enter Tryz.func52, Tryz.ntmps52
        go_wp2_with (first | (go_at_call 71; refine HTP.out.mono ?_; rintro e w' ⟨rfl, rfl⟩) | (go_at_call 36; refine (HWI.out _).mono ?_; rintro e w' ⟨rfl, rfl⟩) | (go_at_call 72; refine HTR.out.mono ?_; rintro e w' ⟨rfl, hb'⟩) | (go_at_call 73; refine (HAT2.out _).mono ?_; rintro e w'' ⟨rfl, hb''⟩))
        exact HS.out _ _ n HN3.out (hb'.trans (hb''.mono hb'.size)) rfl
end Go.Proofs.YtegimepmccilfaaGreatDoor
namespace Go.Proofs.YtegimepmccilfaaGreatDoor
open Go.RowKit
set_option linter.unusedVariables false
set_option linter.unusedSimpArgs false
/-- the library's variable that Split reads holds some number -/
def HasMax (w : World) : Prop := ∃ m, w.cell? ⟨0, 0, none⟩ = some (.int .i64 m)
theorem HasMax.below {w w' : World} {B : Nat} (h : HasMax w) (hB : 0 < B) (hb : Below B w w') : HasMax w' := by
  obtain ⟨m, hm⟩ := h
  exact ⟨m, ((bcell hb).1 _ _ hB).trans hm⟩
theorem HasMax.pos {w : World} (h : HasMax w) : 0 < w.heap.size := by
  obtain ⟨m, hm⟩ := h
  exact World.block_lt_of_cell? w _ hm
abbrev wsCells (ws : List Tx) : Array Value := (ws.map fun y => Value.string ⟨y.toArray⟩).toArray
abbrev wsObj (ws : List Tx) : Obj := .cells (wsCells ws) 9
theorem info_str : (Tryz.prog.info? 9).map (fun i => (i.zero, i.size, i.bytes)) = some (some (.string ByteArray.empty), 1, 16) := by kernel_rfl
theorem psplit_any (c : UInt8) (x : Tx) (hx : x.length ≤ 100000) (w : World) (hm : HasMax w) :
    Calls Tryz.prog 50 #[.string ⟨x.toArray⟩, .string ⟨#[c]⟩] w fun e w' => e = .returned (.slice (some ⟨w.heap.size, 0, none⟩) (spl c x).length (spl c x).length) ∧ w' = w.alloc (wsObj (spl c x)) := by
  obtain ⟨m, hm⟩ := hm
  have h := Any.strings_Split { Tryz.laysM146 with } info_str ⟨x.toArray⟩ ⟨#[c]⟩ m w (by rw [pl_size]; omega) hm (Nat.le_refl 1)
  have hd := Lib.splitB_data ⟨#[c]⟩ 0 (Lib.countB ⟨x.toArray⟩ ⟨#[c]⟩) ⟨x.toArray⟩
  have hs : (Lib.splitB ⟨#[c]⟩ 0 (Lib.countB ⟨x.toArray⟩ ⟨#[c]⟩) ⟨x.toArray⟩).map (·.data.toList) = spl c x := by
    rw [hd, ← lib_split c x.length x (Nat.le_refl _)]
    unfold Lib.split
    rfl
  have hl := congrArg List.length hs
  rw [List.length_map, Lib.splitB_all ⟨#[c]⟩ (Nat.le_refl 1) 0 _ ⟨x.toArray⟩ rfl] at hl
  rw [Lib.pieces_eq hs, hl] at h
  exact h
theorem set_same (w : World) (b j : Nat) (cur : Array Value) (e : TypeId) (fz : Nat × Nat) (v : Value) (h : w.heap[b]? = some (.cells cur e fz)) : (w.setCell ⟨b, j, none⟩ v).heap[b]? = some (.cells (cur.setIfInBounds j v) e fz) := by
  simp [World.setCell, Array.getElem?_modify, h]
abbrev xbObj (sb a n : Nat) : Obj := .cells #[.slice (some ⟨sb, a, none⟩) n n] 60
/-- the words from k on, in a box -/
structure WordsAt (xb sb : Nat) (ws : List Tx) (k : Nat) (W : World) : Prop where
  row : W.heap[sb]? = some (wsObj ws)
  le : k ≤ ws.length
  box : ∃ a, W.heap[xb]? = some (xbObj sb a (ws.length - k)) ∧ (k < ws.length → a = k)
theorem WordsAt.ne {xb sb : Nat} {ws : List Tx} {k : Nat} {W : World} (h : WordsAt xb sb ws k W) : sb ≠ xb := fun e => by
  subst e
  obtain ⟨a, ha, _⟩ := h.box
  rw [h.row] at ha
  simp only [Option.some.injEq, Obj.cells.injEq] at ha
  exact absurd ha.2.1 (by decide)
theorem WordsAt.xlt {xb sb : Nat} {ws : List Tx} {k : Nat} {W : World} (h : WordsAt xb sb ws k W) : xb < W.heap.size := by
  obtain ⟨a, ha, _⟩ := h.box
  exact (Array.getElem?_eq_some_iff.1 ha).1
theorem WordsAt.keep {xb sb : Nat} {ws : List Tx} {k : Nat} {W W' : World} (h : WordsAt xb sb ws k W) (h1 : W'.heap[sb]? = W.heap[sb]?) (h2 : W'.heap[xb]? = W.heap[xb]?) : WordsAt xb sb ws k W' := ⟨h1.trans h.row, h.le, by
  obtain ⟨a, ha, hk⟩ := h.box
  exact ⟨a, h2.trans ha, hk⟩⟩
theorem WordsAt.pop {xb sb : Nat} {ws : List Tx} {k : Nat} {W : World} (h : WordsAt xb sb ws k W) (hk : k < ws.length) {a : Nat} (ha : k + 1 < ws.length → a = k + 1) : WordsAt xb sb ws (k + 1) (W.setCell ⟨xb, 0, none⟩ (.slice (some ⟨sb, a, none⟩) (ws.length - (k + 1)) (ws.length - (k + 1)))) := by
  obtain ⟨b, hb, _⟩ := h.box
  refine ⟨?_, hk, a, ?_, ha⟩
  · exact (Below.heap_setCell _ _ _ _ h.ne).trans h.row
  · exact set_same _ _ _ _ _ _ _ hb
theorem WordsAt.word {xb sb : Nat} {ws : List Tx} {k : Nat} {W : World} (h : WordsAt xb sb ws k W) {i : Nat} (hi : i < ws.length) : W.cell? ⟨sb, i, none⟩ = some (.string ⟨(ws.getD i []).toArray⟩) := by
  have := cell_of_row _ _ i _ _ _ h.row
  rw [this]
  simp [List.getD_eq_getElem?_getD, List.getElem?_eq_getElem hi]
/-- the box of words may have been written, nothing else -/
def Pop (xb : Nat) (w w' : World) : Prop := w' = w ∨ ∃ v, w' = w.setCell ⟨xb, 0, none⟩ v
theorem Pop.below {xb : Nat} {w w' : World} (h : Pop xb w w') {B : Nat} (hB : B ≤ xb) : Below B w w' := by
  rcases h with rfl | ⟨v, rfl⟩
  · exact Below.refl _ _
  · exact (Below.refl B w).setCell (p := ⟨xb, 0, none⟩) hB _
theorem Pop.heap {xb : Nat} {w w' : World} (h : Pop xb w w') {j : Nat} (hj : j ≠ xb) : w'.heap[j]? = w.heap[j]? := by
  rcases h with rfl | ⟨v, rfl⟩
  · rfl
  · exact Below.heap_setCell _ _ _ _ hj
theorem Pop.size {xb : Nat} {w w' : World} (h : Pop xb w w') : w'.heap.size = w.heap.size := by
  rcases h with rfl | ⟨v, rfl⟩
  · rfl
  · simp [World.setCell]
def NextRes (xb sb : Nat) (ws : List Tx) (k : Nat) (w : World) (e : Ending) (w' : World) : Prop := Pop xb w w' ∧ if k < ws.length then e = .returned (.string ⟨(ws.getD k []).toArray⟩) ∧ WordsAt xb sb ws (k + 1) w' else e = .panicked wrP
set_option maxRecDepth 100000 in
set_option maxHeartbeats 1000000 in
theorem next_any {xb sb : Nat} {ws : List Tx} {k : Nat} {w : World} (h : WordsAt xb sb ws k w) (hl : ws.length ≤ 100000) : Calls Tryz.prog 74 #[.pointer (some ⟨xb, 0, none⟩)] w (NextRes xb sb ws k w) := by
  have HR := Lib.hid (fun (a : Nat) (hk : k < ws.length) (ha : k + 1 < ws.length → a = k + 1) => show NextRes xb sb ws k w (.returned (.string ⟨(ws.getD k []).toArray⟩)) (w.setCell ⟨xb, 0, none⟩ (.slice (some ⟨sb, a, none⟩) (ws.length - (k + 1)) (ws.length - (k + 1)))) from ⟨.inr ⟨_, rfl⟩, by rw [if_pos hk]; exact ⟨rfl, h.pop hk ha⟩⟩)
  have HP := Lib.hid (fun (hk : ¬ k < ws.length) => show NextRes xb sb ws k w (.panicked wrP) w from ⟨.inl rfl, by rw [if_neg hk]⟩)
  have HWD := Lib.hid (fun hi => h.word (i := k) hi)
  have hkl := h.le
  obtain ⟨a, ha, hak⟩ := h.box
  have x0 := cell_of_row _ _ 0 _ _ _ ha
  have xf : w.frozen? ⟨xb, 0, none⟩ = false := Lib.frozen_of_heap ha 0
  generalize NextRes xb sb ws k w = RES at *
  clear h
  by_cases hk : k < ws.length
  · obtain rfl := hak hk
    have HR2 := Lib.hid (fun b hb => HR.out b hk hb)
    have d0 := HWD.out hk
    obtain ⟨m, hm⟩ : ∃ m, ws.length - a = m + 1 := ⟨ws.length - a - 1, by omega⟩
    have hm2 : ws.length - (a + 1) = m := by omega
    rw [hm2] at HR2
    rw [hm] at x0 ha
    generalize ws.getD a [] = y at *
    have h1 : ((m + 1 : Nat) : Int) ≠ 0 := by omega
    by_cases hm0 : m = 0
    · subst hm0
      have HR3 := Lib.hid (HR2.out a (by omega))
      clear HR HR2 HP HWD hm hm2 ha
      go_enter Tryz.func74, Tryz.ntmps74
      go_wp2
      exact HR3.out
    · have HR3 := Lib.hid (HR2.out (a + 1) (fun _ => rfl))
      have h2 : ¬ m + 1 - 1 = 0 := by omega
      have h3 : (1 : Int) ≤ ((m + 1 : Nat) : Int) := by omega
      clear HR HR2 HP HWD hm hm2 ha
      go_enter Tryz.func74, Tryz.ntmps74
      go_wp2
      exact HR3.out
  · obtain hm : ws.length - k = 0 := by omega
    have HP2 := Lib.hid (HP.out hk)
    rw [hm] at x0
    clear HR HP HWD ha
    go_enter Tryz.func74, Tryz.ntmps74
    go_wp2
    simp only [bodyPost]
    exact ⟨trivial, HP2.out⟩
def MoreRes (xb sb : Nat) (ws : List Tx) (k : Nat) (y : Tx) (w : World) (e : Ending) (w' : World) : Prop := e = .returned (.bool (moreB ws k y)) ∧ Pop xb w w' ∧ WordsAt xb sb ws (if moreB ws k y = true then k + 1 else k) w'
set_option maxRecDepth 100000 in
set_option maxHeartbeats 1000000 in
theorem more_words {xb sb : Nat} {ws : List Tx} {k : Nat} {w : World} (h : WordsAt xb sb ws k w) (hl : ws.length ≤ 100000) (y : Tx) : Calls Tryz.prog 75 #[.string ⟨y.toArray⟩, .pointer (some ⟨xb, 0, none⟩)] w (MoreRes xb sb ws k y w) := by
  have HR := Lib.hid (fun (a : Nat) (hk : k < ws.length) (hy : ws.getD k [] = y) (ha : k + 1 < ws.length → a = k + 1) => show MoreRes xb sb ws k y w (.returned (.bool true)) (w.setCell ⟨xb, 0, none⟩ (.slice (some ⟨sb, a, none⟩) (ws.length - (k + 1)) (ws.length - (k + 1)))) from by
    have hm : moreB ws k y = true := by unfold moreB; rw [decide_eq_true_eq]; exact ⟨hk, hy⟩
    refine ⟨by rw [hm], .inr ⟨_, rfl⟩, ?_⟩
    rw [if_pos hm]
    exact h.pop hk ha)
  have HP := Lib.hid (fun (hk : ¬ (k < ws.length ∧ ws.getD k [] = y)) => show MoreRes xb sb ws k y w (.returned (.bool false)) w from by
    have hm : ¬ moreB ws k y = true := by unfold moreB; rw [decide_eq_true_eq]; exact hk
    refine ⟨by rw [show moreB ws k y = false by simpa using hm], .inl rfl, ?_⟩
    rw [if_neg hm]
    exact h)
  have HWD := Lib.hid (fun hi => h.word (i := k) hi)
  have hkl := h.le
  obtain ⟨a, ha, hak⟩ := h.box
  have x0 := cell_of_row _ _ 0 _ _ _ ha
  have xf : w.frozen? ⟨xb, 0, none⟩ = false := Lib.frozen_of_heap ha 0
  generalize MoreRes xb sb ws k y w = RES at *
  clear h
  by_cases hk : k < ws.length
  · obtain rfl := hak hk
    have HR2 := Lib.hid (fun b hy hb => HR.out b hk hy hb)
    have HP2 := Lib.hid (fun (hy : ¬ ws.getD a [] = y) => HP.out (fun h => hy h.2))
    have d0 := HWD.out hk
    obtain ⟨m, hm⟩ : ∃ m, ws.length - a = m + 1 := ⟨ws.length - a - 1, by omega⟩
    have hm2 : ws.length - (a + 1) = m := by omega
    rw [hm2] at HR2
    rw [hm] at x0 ha
    generalize ws.getD a [] = z at *
    have h1 : ((m + 1 : Nat) : Int) ≠ 0 := by omega
    clear HP
    by_cases hz : z = y
    · have hz' : (z == y) = true := by simpa using hz
      by_cases hm0 : m = 0
      · subst hm0
        have HR3 := Lib.hid (HR2.out a hz (by omega))
        clear HR HR2 HP2 HWD hm hm2 ha hz
        go_enter Tryz.func75, Tryz.ntmps75
        go_wp2
        exact HR3.out
      · have HR3 := Lib.hid (HR2.out (a + 1) hz (fun _ => rfl))
        have h2 : ¬ m + 1 - 1 = 0 := by omega
        have h3 : (1 : Int) ≤ ((m + 1 : Nat) : Int) := by omega
        clear HR HR2 HP2 HWD hm hm2 ha hz
        go_enter Tryz.func75, Tryz.ntmps75
        go_wp2
        exact HR3.out
    · have hz' : (z == y) = false := by simpa using hz
      have HP3 := Lib.hid (HP2.out hz)
      clear HR HR2 HP2 HWD hm hm2 ha hz
      go_enter Tryz.func75, Tryz.ntmps75
      go_wp2
      exact HP3.out
  · obtain hm : ws.length - k = 0 := by omega
    have HP2 := Lib.hid (HP.out (fun h => hk h.1))
    rw [hm] at x0
    clear HR HP HWD ha
    go_enter Tryz.func75, Tryz.ntmps75
    go_wp2
    exact HP2.out
/-- where a word stands in a list, from one on -/
def ixR : List Tx → Tx → Option Nat
  | [], _ => none
  | l :: ls, y => if l = y then some 1 else (ixR ls y).map (· + 1)
theorem ix_hit : ∀ {ls : List Tx} {y : Tx} {i : Nat}, i < ls.length → (∀ j, j < i → ¬ ls.getD j [] = y) → ls.getD i [] = y → ixR ls y = some (i + 1)
  | l :: ls, y, 0, _, _, h => by unfold ixR; rw [if_pos (show l = y from h)]
  | l :: ls, y, i + 1, hi, hn, h => by
    unfold ixR
    rw [if_neg (show ¬ l = y from hn 0 (by omega)), ix_hit (ls := ls) (i := i) (by simpa using hi) (fun j hj => hn (j + 1) (by omega)) h]
    rfl
theorem ix_miss : ∀ {ls : List Tx} {y : Tx}, (∀ j, j < ls.length → ¬ ls.getD j [] = y) → ixR ls y = none
  | [], _, _ => rfl
  | l :: ls, y, h => by
    unfold ixR
    rw [if_neg (show ¬ l = y from h 0 (by simp)), ix_miss (ls := ls) (fun j hj => h (j + 1) (by simpa using hj))]
    rfl
abbrev nxObj (xb : Nat) : Obj := .cells #[.func (Fn.func 74) #[] #[.pointer (some ⟨xb, 0, none⟩)]] 72
def OneRes (xb sb : Nat) (ws : List Tx) (k : Nat) (ls : List Tx) (w : World) (e : Ending) (w' : World) : Prop := Pop xb w w' ∧ match (if k < ws.length then ixR ls (ws.getD k []) else none) with
  | none => e = .panicked wrP
  | some i => e = .returned (.int .i64 (i : Int)) ∧ WordsAt xb sb ws (k + 1) w'
set_option maxRecDepth 100000 in
set_option maxHeartbeats 1000000 in
theorem one_any {xb sb nb lb : Nat} {ws ls : List Tx} {k : Nat} {w : World} (h : WordsAt xb sb ws k w) (hl : ws.length ≤ 100000) (hn : w.heap[nb]? = some (nxObj xb)) (hL : w.heap[lb]? = some (wsObj ls)) (hlx : lb ≠ xb) (hll : ls.length ≤ 3) : Calls Tryz.prog 76 #[.slice (some ⟨lb, 0, none⟩) ls.length ls.length, .pointer (some ⟨nb, 0, none⟩)] w (OneRes xb sb ws k ls w) := by
  have HN := Lib.hid (next_any h hl)
  have HNO := Lib.hid (fun (w' : World) (hk : ¬ k < ws.length) (hp : Pop xb w w') => show OneRes xb sb ws k ls w (.panicked wrP) w' from ⟨hp, by rw [if_neg hk]⟩)
  have HP := Lib.hid (fun (w' : World) (hk : k < ws.length) (hx : ixR ls (ws.getD k []) = none) (hp : Pop xb w w') => show OneRes xb sb ws k ls w (.panicked wrP) w' from ⟨hp, by rw [if_pos hk, hx]⟩)
  have HS := Lib.hid (fun (w' : World) (i : Nat) (hk : k < ws.length) (hx : ixR ls (ws.getD k []) = some i) (hp : Pop xb w w') (hw : WordsAt xb sb ws (k + 1) w') => show OneRes xb sb ws k ls w (.returned (.int .i64 (i : Int))) w' from ⟨hp, by rw [if_pos hk, hx]; exact ⟨rfl, hw⟩⟩)
  have x0 := cell_of_row _ _ 0 _ _ _ hn
  generalize hR : OneRes xb sb ws k ls w = RES at *
  clear hR
  have HL := Lib.hid hL
  clear h hL hn
  by_cases hk : k < ws.length
  case neg =>
    go_enter Tryz.func76, Tryz.ntmps76
    go_wp2_with (go_at_call 74; refine HN.out.mono ?_; intro e w1 hr; obtain ⟨hp, hr2⟩ := hr; rw [if_neg hk] at hr2; subst hr2)
    simp only [bodyPost]
    exact ⟨trivial, HNO.out _ hk hp⟩
  case pos =>
    have HHIT := Lib.hid (fun (i : Nat) => @ix_hit ls (ws.getD k []) i)
    have HMISS := Lib.hid (@ix_miss ls (ws.getD k []))
    have HP2 := Lib.hid (fun w' => HP.out w' hk)
    have HS2 := Lib.hid (fun w' i => HS.out w' i hk)
    clear HP HS HNO
    have HN2 := Lib.hid (HN.out.mono (R' := fun e w' => e = .returned (.string ⟨(ws.getD k []).toArray⟩) ∧ Pop xb w w' ∧ WordsAt xb sb ws (k + 1) w') fun e w' hr => by
      obtain ⟨hp, hr2⟩ := hr
      rw [if_pos hk] at hr2
      exact ⟨hr2.1, hp, hr2.2⟩)
    clear HN
    generalize ws.getD k [] = y at *
    go_enter Tryz.func76, Tryz.ntmps76
    go_upto_region 2 with (go_at_call 74; refine HN2.out.mono ?_; rintro e w1 ⟨rfl, hp, hw1⟩)
    clear x0
    have HW1 := Lib.hid hw1
    have HPP := Lib.hid hp
    have HL1 := Lib.hid ((hp.heap hlx).trans HL.out)
    clear hw1 hp hk HN2
    go_wp2
    go_loopw [11] (fun s11 wr => ∃ i : Nat, i ≤ ls.length ∧ s11 = .int .i64 (i : Int) ∧ Hid (∀ j, j < i → ¬ ls.getD j [] = y) ∧ wr = w1) (fun s11 _ => ls.length - (intOf s11).toNat)
    case atStart => exact ⟨0, Nat.zero_le _, rfl, Lib.hid (fun j hj => by omega), rfl⟩
    case round =>
      obtain ⟨i, hi, rfl, HALL, rfl⟩ := hrel
      by_cases hlt : i < ls.length
      · have hlt' : (i : Int) < (ls.length : Int) := by omega
        have d0 : wr.cell? ⟨lb, i, none⟩ = some (.string ⟨(ls.getD i []).toArray⟩) := by
          rw [cell_of_row _ _ i _ _ _ HL1.out]
          simp [List.getD_eq_getElem?_getD, List.getElem?_eq_getElem hlt]
        by_cases hz : ls.getD i [] = y
        · have hz' : (ls.getD i [] == y) = true := by simpa using hz
          have HE := Lib.hid (HS2.out _ (i + 1) (HHIT.out i hlt HALL.out hz) HPP.out HW1.out)
          clear hz
          generalize ls.getD i [] = z at *
          go_wp2
          exact HE.out
        · have hz' : (ls.getD i [] == y) = false := by simpa using hz
          have HALL2 := Lib.hid (show ∀ j, j < i + 1 → ¬ ls.getD j [] = y from fun j hj => by
            by_cases e : j = i
            · subst e; exact hz
            · exact HALL.out j (by omega))
          clear hz HALL
          generalize ls.getD i [] = z at *
          go_wp2
          go_roundw
          case rel => exact ⟨i + 1, by omega, by go_num, HALL2, by trivial⟩
          case measure => simp [intOf]; omega
      · obtain rfl : i = ls.length := by omega
        have hlt' : ¬ (ls.length : Int) < (ls.length : Int) := by omega
        have HE := Lib.hid (HP2.out _ (HMISS.out HALL.out) HPP.out)
        go_wp2
        simp only [bodyPost]
        exact ⟨trivial, HE.out⟩
end Go.Proofs.YtegimepmccilfaaGreatDoor
namespace Go.Proofs.YtegimepmccilfaaGreatDoor
open Go.RowKit
set_option linter.unusedVariables false
set_option linter.unusedSimpArgs false
def dvOf (d : DR) : DV := ⟨d.1, d.2.1, d.2.2⟩
def drF (D : List DR) (i : Nat) : DV := dvOf (D.getD i (0, 0, 0))
def deF (E : List Int) (i : Nat) : Int := E.getD i 0
def drC (D : List DR) : List Value := dCells (drF D) D.length
def deC (E : List Int) : List Value := iCells (deF E) E.length
theorem getD_snoc {α : Type} (l : List α) (x d : α) : (l ++ [x]).getD l.length d = x := by
  rw [List.getD_eq_getElem?_getD, List.getElem?_append_right (Nat.le_refl _), Nat.sub_self]
  rfl
theorem getD_front {α : Type} (l : List α) (x d : α) {i : Nat} (h : i < l.length) : (l ++ [x]).getD i d = l.getD i d := by
  rw [List.getD_eq_getElem?_getD, List.getElem?_append_left h, ← List.getD_eq_getElem?_getD]
theorem drC_snoc (D : List DR) (d : DR) : drC (D ++ [d]) = drC D ++ [.int .i64 d.1, .int .i64 d.2.1, .int .i64 d.2.2] := by
  unfold drC dCells
  rw [List.length_append, List.length_singleton, flatN]
  congr 1
  · refine flatN_congr _ fun i hi => ?_
    unfold drF
    rw [getD_front D d _ hi]
  · unfold drF
    rw [getD_snoc]
    rfl
theorem deC_snoc (E : List Int) (n : Int) : deC (E ++ [n]) = deC E ++ [.int .i64 n] := by
  unfold deC iCells
  rw [List.length_append, List.length_singleton, flatN]
  congr 1
  · refine flatN_congr _ fun i hi => ?_
    unfold deF
    rw [getD_front E n _ hi]
  · unfold deF
    rw [getD_snoc]
/-- the cells of a plane -/
def pcs (kd vw : Int) (f : Nat → Int) (dv ev : Value) : Array Value := #[.int .i64 kd, .int .i64 vw, .int .i64 (f 0), .int .i64 (f 1), .int .i64 (f 2), .int .i64 (f 3), .int .i64 (f 4), .int .i64 (f 5), .int .i64 (f 6), .int .i64 (f 7), .int .i64 (f 8), .int .i64 (f 9), .int .i64 (f 10), dv, ev]
theorem pcs_set {kd vw : Int} {f : Nat → Int} {dv ev : Value} {i : Nat} (hi : i < 11) (n : Int) : (pcs kd vw f dv ev).setIfInBounds (2 + i) (.int .i64 n) = pcs kd vw (fun j => if j = i then n else f j) dv ev := by
  match i, hi with
  | 0, _ => rfl
  | 1, _ => rfl
  | 2, _ => rfl
  | 3, _ => rfl
  | 4, _ => rfl
  | 5, _ => rfl
  | 6, _ => rfl
  | 7, _ => rfl
  | 8, _ => rfl
  | 9, _ => rfl
  | 10, _ => rfl
theorem pcs_congr {kd vw : Int} {f g : Nat → Int} {dv ev : Value} (h : ∀ i, i < 11 → f i = g i) : pcs kd vw f dv ev = pcs kd vw g dv ev := by
  unfold pcs
  rw [h 0 (by decide), h 1 (by decide), h 2 (by decide), h 3 (by decide), h 4 (by decide), h 5 (by decide), h 6 (by decide), h 7 (by decide), h 8 (by decide), h 9 (by decide), h 10 (by decide)]
abbrev nilV : Value := .slice none 0 0
/-- the blocks of the function's own boxes -/
structure PC (w : World) (rb xb nb pb : Nat) : Prop where
  r : w.heap.size ≤ rb
  x : w.heap.size ≤ xb
  n : w.heap.size ≤ nb
  p : w.heap.size ≤ pb
  rp : rb ≠ pb
structure PB (w : World) (rb xb nb pb sb : Nat) (ws : List Tx) (k : Nat) (cells : Array Value) (W : World) : Prop where
  below : Below w.heap.size w W
  wd : WordsAt xb sb ws k W
  nx : W.heap[nb]? = some (nxObj xb)
  rbx : W.heap[rb]? = some (.cells (pcs 0 0 (fun _ => 0) nilV nilV) 42)
  p : W.heap[pb]? = some (.cells cells 42)
theorem blk_ne {W : World} {a b : Nat} {ca cb : Array Value} {ta tb : TypeId} {fa fb : Nat × Nat} (ha : W.heap[a]? = some (.cells ca ta fa)) (hb : W.heap[b]? = some (.cells cb tb fb)) (h : ta ≠ tb) : a ≠ b := fun e => by
  subst e
  rw [ha] at hb
  simp only [Option.some.injEq, Obj.cells.injEq] at hb
  exact h hb.2.1
section
variable {w : World} {rb xb nb pb sb : Nat} {ws : List Tx} {k : Nat} {cells : Array Value} {W W' : World}
theorem PB.quiet (h : PB w rb xb nb pb sb ws k cells W) (hb : Below W.heap.size W W') : PB w rb xb nb pb sb ws k cells W' := by
  obtain ⟨a, ha, _⟩ := h.wd.box
  exact ⟨h.below.trans (hb.mono h.below.size), h.wd.keep (hb.block _ (Array.getElem?_eq_some_iff.1 h.wd.row).1) (hb.block _ h.wd.xlt), (hb.block _ (Array.getElem?_eq_some_iff.1 h.nx).1).trans h.nx, (hb.block _ (Array.getElem?_eq_some_iff.1 h.rbx).1).trans h.rbx, (hb.block _ (Array.getElem?_eq_some_iff.1 h.p).1).trans h.p⟩
theorem PB.pop (c : PC w rb xb nb pb) (h : PB w rb xb nb pb sb ws k cells W) (hp : Pop xb W W') {k' : Nat} (hw : WordsAt xb sb ws k' W') : PB w rb xb nb pb sb ws k' cells W' := by
  obtain ⟨a, ha, _⟩ := h.wd.box
  exact ⟨h.below.trans (hp.below c.x), hw, (hp.heap (blk_ne h.nx ha (by decide))).trans h.nx, (hp.heap (blk_ne h.rbx ha (by decide))).trans h.rbx, (hp.heap (blk_ne h.p ha (by decide))).trans h.p⟩
theorem PB.put (c : PC w rb xb nb pb) (h : PB w rb xb nb pb sb ws k cells W) (j : Nat) (v : Value) {cells' : Array Value} (hc : cells.setIfInBounds j v = cells') : PB w rb xb nb pb sb ws k cells' (W.setCell ⟨pb, j, none⟩ v) := by
  obtain ⟨a, ha, _⟩ := h.wd.box
  subst hc
  refine ⟨h.below.setCell (p := ⟨pb, j, none⟩) c.p _, h.wd.keep (Below.heap_setCell _ _ _ _ (blk_ne h.wd.row h.p (by decide))) (Below.heap_setCell _ _ _ _ (blk_ne ha h.p (by decide))), (Below.heap_setCell _ _ _ _ (blk_ne h.nx h.p (by decide))).trans h.nx, (Below.heap_setCell _ _ _ _ c.rp).trans h.rbx, set_same _ _ _ _ _ _ _ h.p⟩
theorem PB.grown (h : PB w rb xb nb pb sb ws k cells W) {e : TypeId} {s : Nat} {v : Value} {n : Nat} {xs : List Value} (ho : W.ownsRow w.heap.size e s v n xs) (hg : W.grownBy W' v.ownBlock) (he : e ≠ 60 ∧ e ≠ 9 ∧ e ≠ 72 ∧ e ≠ 42) : PB w rb xb nb pb sb ws k cells W' := by
  obtain ⟨a, ha, _⟩ := h.wd.box
  have key : ∀ {j : Nat} {cs : Array Value} {t : TypeId} {fz : Nat × Nat}, W.heap[j]? = some (.cells cs t fz) → e ≠ t → W'.heap[j]? = W.heap[j]? := fun {j cs t fz} hj ht => hg.block j (Array.getElem?_eq_some_iff.1 hj).1 (fun e' => by
    rcases ho.2 with ⟨rfl, _⟩ | ⟨g', cap', cur', rfl, _, hg', _⟩
    · simp [Value.ownBlock] at e'
    · simp only [Value.ownBlock, Option.some.injEq] at e'
      subst e'
      rw [hg'] at hj
      simp only [Option.some.injEq, Obj.cells.injEq] at hj
      exact ht hj.2.1)
  exact ⟨h.below.grown hg h.below.size (fun j hj => (ho.lt j hj).1), h.wd.keep (key h.wd.row he.2.1) (key ha he.1), (key h.nx he.2.2.1).trans h.nx, (key h.rbx he.2.2.2).trans h.rbx, (key h.p he.2.2.2).trans h.p⟩
/-- an owned row keeps where boxes of another type are written -/
theorem row_pop {base : Nat} {e : TypeId} {s : Nat} {v : Value} {n : Nat} {xs : List Value} (ho : W.ownsRow base e s v n xs) {cs : Array Value} {t : TypeId} {fz : Nat × Nat} {b : Nat} (hb : W.heap[b]? = some (.cells cs t fz)) (ht : e ≠ t) (j : Nat) (u : Value) : (W.setCell ⟨b, j, none⟩ u).ownsRow base e s v n xs := by
  refine ho.kept (row := some b) ⟨rfl, rfl, rfl, by simp [World.setCell], fun k _ hk => Below.heap_setCell _ _ _ _ (fun e => hk (by rw [e]))⟩ ?_
  right
  rcases ho.2 with ⟨rfl, _⟩ | ⟨g', cap', cur', rfl, _, hg', _⟩
  · simp [Value.ownBlock]
  · simp only [Value.ownBlock, ne_eq, Option.some.injEq]
    intro e'
    subst e'
    rw [hg'] at hb
    simp only [Option.some.injEq, Obj.cells.injEq] at hb
    exact ht hb.2.1
theorem row_Pop {base : Nat} {e : TypeId} {s : Nat} {v : Value} {n : Nat} {xs : List Value} (ho : W.ownsRow base e s v n xs) (hw : WordsAt xb sb ws k W) (ht : e ≠ 60) (hp : Pop xb W W') : W'.ownsRow base e s v n xs := by
  obtain ⟨a, ha, _⟩ := hw.box
  rcases hp with rfl | ⟨u, rfl⟩
  · exact ho
  · exact row_pop ho ha ht 0 u
end
theorem kind_ix (y : Tx) : kindR y = (ixR [stripsT, tubesT, filmT] y).map fun (i : Nat) => (i : Int) := by
  unfold kindR
  by_cases h1 : y = stripsT
  · rw [if_pos h1]; subst h1; rfl
  · rw [if_neg h1, ixR, if_neg (show ¬ stripsT = y from fun e => h1 e.symm)]
    by_cases h2 : y = tubesT
    · rw [if_pos h2]; subst h2; rfl
    · rw [if_neg h2, ixR, if_neg (show ¬ tubesT = y from fun e => h2 e.symm)]
      by_cases h3 : y = filmT
      · rw [if_pos h3]; subst h3; rfl
      · rw [if_neg h3, ixR, if_neg (show ¬ filmT = y from fun e => h3 e.symm)]
        rfl
theorem view_ix (y : Tx) : viewR y = (ixR [viewxT, viewyT] y).map fun (i : Nat) => (i : Int) := by
  unfold viewR
  by_cases h1 : y = viewxT
  · rw [if_pos h1]; subst h1; rfl
  · rw [if_neg h1, ixR, if_neg (show ¬ viewxT = y from fun e => h1 e.symm)]
    by_cases h2 : y = viewyT
    · rw [if_pos h2]; subst h2; rfl
    · rw [if_neg h2, ixR, if_neg (show ¬ viewyT = y from fun e => h2 e.symm)]
      rfl
/-- what plane.plane hands back -/
def prOf (kd vw : Int) (l : List Int) (a : Option Addr) (c : Nat) (D : List DR) (a' : Option Addr) (c' : Nat) (E : List Int) : PR := ⟨kd, vw, deF l 0, deF l 1, deF l 2, deF l 3, deF l 4, deF l 5, deF l 6, deF l 7, deF l 8, deF l 9, deF l 10, a, D.length, c, a', E.length, c', drF D, deF E⟩
def LineRes (x : Tx) (w : World) (e : Ending) (w' : World) : Prop := Below w.heap.size w w' ∧ match lineR (spl 32 x) with
  | none => e = .panicked wrP
  | some pp => ∃ q : PR, e = .returned q.plane ∧ toPP q = pp ∧ w'.ownsRow w.heap.size 71 3 (.slice q.da q.dn q.dc) q.dn (dCells q.ds q.dn) ∧ w'.ownsRow w.heap.size 3 1 (.slice q.ea q.en q.ec) q.en (iCells q.es q.en)
end Go.Proofs.YtegimepmccilfaaGreatDoor
