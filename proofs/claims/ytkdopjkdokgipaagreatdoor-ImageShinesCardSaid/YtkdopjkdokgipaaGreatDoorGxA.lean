/- Texts put together: RkDat, RkA, RkB, RkW, RkW2, RkT, RkC, RkD. -/
import Derived.Test.YtkdopjkdokgipaaGreatDoorImData
import Derived.Test.YtkdopjkdokgipaaGreatDoorImOwn
import Derived.Test.YtkdopjkdokgipaaGreatDoorBase
import Derived.Deep.MidRow
import Derived.Laws.ResultCell
import Derived.Test.YtkdopjkdokgipaaGreatDoorProg
import Derived.KernelRfl
import Derived.Test.YtkdopjkdokgipaaGreatDoorGcA
namespace Go.Proofs.YtkdopjkdokgipaaGreatDoor
open Go.RowKit
set_option linter.unusedVariables false
set_option linter.unusedSimpArgs false
theorem hng {α : Type} : (∀ (xs : List α) (i : Nat) (h : i < xs.toArray.size), xs.toArray[i] = xs[i]'(by simpa using h)) ∧ (∀ (a : α) (l : List α) (h : 0 < (a :: l).length), (a :: l)[0] = a) ∧ (∀ (a : α) (l : List α) (i : Nat) (h : i + 1 < (a :: l).length), (a :: l)[i + 1] = l[i]'(by simpa using h)) := ⟨fun _ _ _ => List.getElem_toArray .., fun _ _ _ => rfl, fun _ _ _ _ => rfl⟩
theorem hns {α : Type} : (∀ (l : List α) (i : Nat) (a : α), l.toArray.setIfInBounds i a = (l.set i a).toArray) ∧ (∀ (a b : α) (l : List α), (a :: l).set 0 b = b :: l) ∧ (∀ (a b : α) (l : List α) (i : Nat), (a :: l).set (i + 1) b = a :: l.set i b) := ⟨fun _ _ _ => List.setIfInBounds_toArray .., fun _ _ _ => rfl, fun _ _ _ _ => rfl⟩
theorem bl {W : World} {b : Nat} {o : Obj} (h : W.heap[b]? = some o) : b < W.heap.size := (Array.getElem?_eq_some_iff.1 h).1
theorem bs {W W' : World} {b : Nat} {o : Obj} (h : W.heap[b]? = some o) (hb : Below W.heap.size W W') : W'.heap[b]? = some o := (hb.block _ (Array.getElem?_eq_some_iff.1 h).1).trans h
theorem cr2 {W : World} {b : Nat} {xs : Array Value} {t : TypeId} (h : W.heap[b]? = some (.cells xs t)) : W.cell? ⟨b, 0, none⟩ = xs[0]? ∧ W.cell? ⟨b, 1, none⟩ = xs[1]? := ⟨cell_of_row _ _ 0 _ _ _ h, cell_of_row _ _ 1 _ _ _ h⟩
theorem cr3 {W : World} {b : Nat} {xs : Array Value} {t : TypeId} (h : W.heap[b]? = some (.cells xs t)) : W.cell? ⟨b, 0, none⟩ = xs[0]? ∧ W.cell? ⟨b, 1, none⟩ = xs[1]? ∧ W.cell? ⟨b, 2, none⟩ = xs[2]? := ⟨cell_of_row _ _ 0 _ _ _ h, cell_of_row _ _ 1 _ _ _ h, cell_of_row _ _ 2 _ _ _ h⟩
theorem cr4 {W : World} {b : Nat} {xs : Array Value} {t : TypeId} (h : W.heap[b]? = some (.cells xs t)) : W.cell? ⟨b, 0, none⟩ = xs[0]? ∧ W.cell? ⟨b, 1, none⟩ = xs[1]? ∧ W.cell? ⟨b, 2, none⟩ = xs[2]? ∧ W.cell? ⟨b, 3, none⟩ = xs[3]? := ⟨cell_of_row _ _ 0 _ _ _ h, cell_of_row _ _ 1 _ _ _ h, cell_of_row _ _ 2 _ _ _ h, cell_of_row _ _ 3 _ _ _ h⟩
theorem cr5 {W : World} {b : Nat} {xs : Array Value} {t : TypeId} (h : W.heap[b]? = some (.cells xs t)) : W.cell? ⟨b, 0, none⟩ = xs[0]? ∧ W.cell? ⟨b, 1, none⟩ = xs[1]? ∧ W.cell? ⟨b, 2, none⟩ = xs[2]? ∧ W.cell? ⟨b, 3, none⟩ = xs[3]? ∧ W.cell? ⟨b, 4, none⟩ = xs[4]? := ⟨cell_of_row _ _ 0 _ _ _ h, cell_of_row _ _ 1 _ _ _ h, cell_of_row _ _ 2 _ _ _ h, cell_of_row _ _ 3 _ _ _ h, cell_of_row _ _ 4 _ _ _ h⟩
theorem cr6 {W : World} {b : Nat} {xs : Array Value} {t : TypeId} (h : W.heap[b]? = some (.cells xs t)) : W.cell? ⟨b, 0, none⟩ = xs[0]? ∧ W.cell? ⟨b, 1, none⟩ = xs[1]? ∧ W.cell? ⟨b, 2, none⟩ = xs[2]? ∧ W.cell? ⟨b, 3, none⟩ = xs[3]? ∧ W.cell? ⟨b, 4, none⟩ = xs[4]? ∧ W.cell? ⟨b, 5, none⟩ = xs[5]? := ⟨cell_of_row _ _ 0 _ _ _ h, cell_of_row _ _ 1 _ _ _ h, cell_of_row _ _ 2 _ _ _ h, cell_of_row _ _ 3 _ _ _ h, cell_of_row _ _ 4 _ _ _ h, cell_of_row _ _ 5 _ _ _ h⟩
theorem cr7 {W : World} {b : Nat} {xs : Array Value} {t : TypeId} (h : W.heap[b]? = some (.cells xs t)) : W.cell? ⟨b, 0, none⟩ = xs[0]? ∧ W.cell? ⟨b, 1, none⟩ = xs[1]? ∧ W.cell? ⟨b, 2, none⟩ = xs[2]? ∧ W.cell? ⟨b, 3, none⟩ = xs[3]? ∧ W.cell? ⟨b, 4, none⟩ = xs[4]? ∧ W.cell? ⟨b, 5, none⟩ = xs[5]? ∧ W.cell? ⟨b, 6, none⟩ = xs[6]? := ⟨cell_of_row _ _ 0 _ _ _ h, cell_of_row _ _ 1 _ _ _ h, cell_of_row _ _ 2 _ _ _ h, cell_of_row _ _ 3 _ _ _ h, cell_of_row _ _ 4 _ _ _ h, cell_of_row _ _ 5 _ _ _ h, cell_of_row _ _ 6 _ _ _ h⟩
theorem cr8 {W : World} {b : Nat} {xs : Array Value} {t : TypeId} (h : W.heap[b]? = some (.cells xs t)) : W.cell? ⟨b, 0, none⟩ = xs[0]? ∧ W.cell? ⟨b, 1, none⟩ = xs[1]? ∧ W.cell? ⟨b, 2, none⟩ = xs[2]? ∧ W.cell? ⟨b, 3, none⟩ = xs[3]? ∧ W.cell? ⟨b, 4, none⟩ = xs[4]? ∧ W.cell? ⟨b, 5, none⟩ = xs[5]? ∧ W.cell? ⟨b, 6, none⟩ = xs[6]? ∧ W.cell? ⟨b, 7, none⟩ = xs[7]? := ⟨cell_of_row _ _ 0 _ _ _ h, cell_of_row _ _ 1 _ _ _ h, cell_of_row _ _ 2 _ _ _ h, cell_of_row _ _ 3 _ _ _ h, cell_of_row _ _ 4 _ _ _ h, cell_of_row _ _ 5 _ _ _ h, cell_of_row _ _ 6 _ _ _ h, cell_of_row _ _ 7 _ _ _ h⟩
theorem cr14 {W : World} {b : Nat} {xs : Array Value} {t : TypeId} (h : W.heap[b]? = some (.cells xs t)) : W.cell? ⟨b, 0, none⟩ = xs[0]? ∧ W.cell? ⟨b, 1, none⟩ = xs[1]? ∧ W.cell? ⟨b, 2, none⟩ = xs[2]? ∧ W.cell? ⟨b, 3, none⟩ = xs[3]? ∧ W.cell? ⟨b, 4, none⟩ = xs[4]? ∧ W.cell? ⟨b, 5, none⟩ = xs[5]? ∧ W.cell? ⟨b, 6, none⟩ = xs[6]? ∧ W.cell? ⟨b, 7, none⟩ = xs[7]? ∧ W.cell? ⟨b, 8, none⟩ = xs[8]? ∧ W.cell? ⟨b, 9, none⟩ = xs[9]? ∧ W.cell? ⟨b, 10, none⟩ = xs[10]? ∧ W.cell? ⟨b, 11, none⟩ = xs[11]? ∧ W.cell? ⟨b, 12, none⟩ = xs[12]? ∧ W.cell? ⟨b, 13, none⟩ = xs[13]? := ⟨cell_of_row _ _ 0 _ _ _ h, cell_of_row _ _ 1 _ _ _ h, cell_of_row _ _ 2 _ _ _ h, cell_of_row _ _ 3 _ _ _ h, cell_of_row _ _ 4 _ _ _ h, cell_of_row _ _ 5 _ _ _ h, cell_of_row _ _ 6 _ _ _ h, cell_of_row _ _ 7 _ _ _ h, cell_of_row _ _ 8 _ _ _ h, cell_of_row _ _ 9 _ _ _ h, cell_of_row _ _ 10 _ _ _ h, cell_of_row _ _ 11 _ _ _ h, cell_of_row _ _ 12 _ _ _ h, cell_of_row _ _ 13 _ _ _ h⟩
structure VO where
  nx : Int
  ny : Int
  nz : Int
  size : Int
structure RY where
  x : Int
  y : Int
  z : Int
  dx : Int
  dy : Int
  dz : Int
def VO.val (v : VO) : Value := .agg #[.int .i64 v.nx, .int .i64 v.ny, .int .i64 v.nz, .int .i64 v.size]
def RY.val (r : RY) : Value := .agg #[.int .i64 r.x, .int .i64 r.y, .int .i64 r.z, .int .i64 r.dx, .int .i64 r.dy, .int .i64 r.dz]
def volB (v : VO) : Bool := (((inB v.nx 1 12 && inB v.ny 1 12) && inB v.nz 1 12) && decide (v.nx * v.ny * v.nz ≤ 600)) && inB v.size 1 1000
structure VO.Ok (v : VO) : Prop where
  x : 1 ≤ v.nx ∧ v.nx ≤ 12
  y : 1 ≤ v.ny ∧ v.ny ≤ 12
  z : 1 ≤ v.nz ∧ v.nz ≤ 12
  cells : v.nx * v.ny * v.nz ≤ 600
  size : 1 ≤ v.size ∧ v.size ≤ 1000
theorem volB_iff {v : VO} : volB v = true ↔ v.Ok := by
  unfold volB
  simp only [Bool.and_eq_true, inB_iff, decide_eq_true_eq]
  exact ⟨fun ⟨⟨⟨⟨h1, h2⟩, h3⟩, h4⟩, h5⟩ => ⟨h1, h2, h3, h4, h5⟩, fun h => ⟨⟨⟨⟨h.x, h.y⟩, h.z⟩, h.cells⟩, h.size⟩⟩
def rayB (r : RY) : Bool := ((inB r.x (-100000) 100000 && inB r.y (-100000) 100000) && inB r.z (-100000) 100000) && (((inB r.dx (-60) 60 && inB r.dy (-60) 60) && inB r.dz (-60) 60) && ((r.dx != 0 || r.dy != 0) || r.dz != 0))
structure RY.Ok (r : RY) : Prop where
  x : -100000 ≤ r.x ∧ r.x ≤ 100000
  y : -100000 ≤ r.y ∧ r.y ≤ 100000
  z : -100000 ≤ r.z ∧ r.z ≤ 100000
  dx : -60 ≤ r.dx ∧ r.dx ≤ 60
  dy : -60 ≤ r.dy ∧ r.dy ≤ 60
  dz : -60 ≤ r.dz ∧ r.dz ≤ 60
  turns : r.dx ≠ 0 ∨ r.dy ≠ 0 ∨ r.dz ≠ 0
theorem rayB_iff {r : RY} : rayB r = true ↔ r.Ok := by
  unfold rayB
  simp only [Bool.and_eq_true, inB_iff, Bool.or_eq_true, bne_iff_ne, ne_eq]
  exact ⟨fun ⟨⟨⟨h1, h2⟩, h3⟩, ⟨⟨h4, h5⟩, h6⟩, h7⟩ => ⟨h1, h2, h3, h4, h5, h6, by rcases h7 with (h | h) | h; exact .inl h; exact .inr (.inl h); exact .inr (.inr h)⟩, fun h => ⟨⟨⟨h.x, h.y⟩, h.z⟩, ⟨⟨h.dx, h.dy⟩, h.dz⟩, by rcases h.turns with h | h | h; exact .inl (.inl h); exact .inl (.inr h); exact .inr h⟩⟩
/-! ### ticks -/
def tkS (out : Nat) (d : Int) : Nat := if d.natAbs = 0 then out else out / Nat.gcd out d.natAbs * d.natAbs
def tkN (r : RY) : Nat → Nat
  | 0 => 1
  | 1 => tkS 1 r.dx
  | 2 => tkS (tkS 1 r.dx) r.dy
  | _ => tkS (tkS (tkS 1 r.dx) r.dy) r.dz
def tkF (r : RY) : Nat := tkN r 3
theorem tkS_bound {out K : Nat} {d : Int} (h1 : 1 ≤ out) (hK : out ≤ K) (hd : -60 ≤ d ∧ d ≤ 60) : 1 ≤ tkS out d ∧ tkS out d ≤ K * 60 := by
  unfold tkS
  by_cases e : d.natAbs = 0
  · rw [if_pos e]; omega
  · rw [if_neg e]
    have h2 : 0 < out / Nat.gcd out d.natAbs := Nat.div_pos (Nat.le_of_dvd (by omega) (Nat.gcd_dvd_left _ _)) (Nat.gcd_pos_of_pos_left _ (by omega))
    have h3 : out / Nat.gcd out d.natAbs ≤ K := Nat.le_trans (Nat.div_le_self _ _) hK
    have h4 : d.natAbs ≤ 60 := by omega
    exact ⟨Nat.mul_pos h2 (by omega), Nat.mul_le_mul h3 h4⟩
theorem tkN_bound {r : RY} (h : r.Ok) : ∀ i, 1 ≤ tkN r i ∧ tkN r i ≤ 216000
  | 0 => by simp [tkN]
  | 1 => by have := tkS_bound (K := 1) (Nat.le_refl 1) (Nat.le_refl 1) h.dx; show 1 ≤ tkS 1 r.dx ∧ tkS 1 r.dx ≤ 216000; omega
  | 2 => by
    have h1 := tkS_bound (K := 1) (Nat.le_refl 1) (Nat.le_refl 1) h.dx
    have h2 := tkS_bound (K := 60) h1.1 (by omega) h.dy
    show 1 ≤ tkS (tkS 1 r.dx) r.dy ∧ tkS (tkS 1 r.dx) r.dy ≤ 216000
    omega
  | n + 3 => by
    have h1 := tkS_bound (K := 1) (Nat.le_refl 1) (Nat.le_refl 1) h.dx
    have h2 := tkS_bound (K := 60) h1.1 (by omega) h.dy
    have h3 := tkS_bound (K := 3600) h2.1 (by omega) h.dz
    show 1 ≤ tkS (tkS (tkS 1 r.dx) r.dy) r.dz ∧ tkS (tkS (tkS 1 r.dx) r.dy) r.dz ≤ 216000
    omega
theorem tkF_bound {r : RY} (h : r.Ok) : 1 ≤ tkF r ∧ tkF r ≤ 216000 := tkN_bound h 3
/-! ### a ray that goes through a volume -/
structure AX where
  b : Int
  t : Int
  c : Int
def axF (v : VO) (r : RY) : Nat → AX
  | 0 => ⟨r.x, r.dx, v.nx⟩
  | 1 => ⟨r.y, r.dy, v.ny⟩
  | _ => ⟨r.z, r.dz, v.nz⟩
def AX.val (a : AX) : Value := .agg #[.int .i64 a.b, .int .i64 a.t, .int .i64 a.c]
def wkVal (v : VO) (r : RY) : Value := .agg #[.int .i64 v.nx, .int .i64 v.ny, .int .i64 v.nz, .int .i64 v.size, .int .i64 r.x, .int .i64 r.dx, .int .i64 v.nx, .int .i64 r.y, .int .i64 r.dy, .int .i64 v.ny, .int .i64 r.z, .int .i64 r.dz, .int .i64 v.nz, .int .i64 (tkF r : Int)]
theorem ax_bound {v : VO} {r : RY} (hv : v.Ok) (hr : r.Ok) (i : Nat) : (-100000 ≤ (axF v r i).b ∧ (axF v r i).b ≤ 100000) ∧ (-60 ≤ (axF v r i).t ∧ (axF v r i).t ≤ 60) ∧ (1 ≤ (axF v r i).c ∧ (axF v r i).c ≤ 12) := by
  match i with
  | 0 => exact ⟨hr.x, hr.dx, hv.x⟩
  | 1 => exact ⟨hr.y, hr.dy, hv.y⟩
  | n + 2 => exact ⟨hr.z, hr.dz, hv.z⟩
/-- after how many ticks an axis is at a place -/
def whF (T : Int) (a : AX) (p : Int) : Int := ((p - a.b) * T).tdiv a.t
theorem tdiv_abs (x y : Int) (K : Int) (h : -K ≤ x ∧ x ≤ K) : -K ≤ x.tdiv y ∧ x.tdiv y ≤ K := by
  have h1 : (x.tdiv y).natAbs ≤ x.natAbs := by rw [Int.natAbs_tdiv]; exact Nat.div_le_self _ _
  omega
theorem rk_mul_abs {x y K M : Int} (hK : 0 ≤ K) (hM : 0 ≤ M) (h : -K ≤ x ∧ x ≤ K) (h2 : -M ≤ y ∧ y ≤ M) : -(K * M) ≤ x * y ∧ x * y ≤ K * M := by
  have h3 : (x * y).natAbs ≤ K.natAbs * M.natAbs := by
    rw [Int.natAbs_mul]
    exact Nat.mul_le_mul (by omega) (by omega)
  have h4 : ((K.natAbs * M.natAbs : Nat) : Int) = K * M := by
    rw [Int.natCast_mul, Int.natAbs_of_nonneg hK, Int.natAbs_of_nonneg hM]
  omega
def TM : Int := 60000000000
theorem wh_bound {T : Int} {a : AX} {p : Int} (hT : 1 ≤ T ∧ T ≤ 216000) (ha : -100000 ≤ a.b ∧ a.b ≤ 100000) (hp : -100000 ≤ p ∧ p ≤ 100000) : (-43200000000 ≤ (p - a.b) * T ∧ (p - a.b) * T ≤ 43200000000) ∧ (-43200000000 ≤ whF T a p ∧ whF T a p ≤ 43200000000) := by
  have h1 := rk_mul_abs (x := p - a.b) (y := T) (K := 200000) (M := 216000) (by decide) (by decide) (by omega) (by omega)
  have h2 : -43200000000 ≤ (p - a.b) * T ∧ (p - a.b) * T ≤ 43200000000 := by omega
  exact ⟨h2, tdiv_abs _ _ _ h2⟩
/-! ### crossings -/
def stp (at_ best t : Int) : Int := if at_ < t ∧ (best < 0 ∨ t < best) then t else best
def nxK (f : Nat → Int) (at_ : Int) : Nat → Int → Int
  | 0, b => b
  | k + 1, b => stp at_ (nxK f at_ k b) (f k)
/-- behind the first i axes -/
def nxA (v : VO) (r : RY) (at_ : Int) : Nat → Int
  | 0 => -1
  | i + 1 => if (axF v r i).t = 0 then nxA v r at_ i else nxK (fun k => whF (tkF r) (axF v r i) ((k : Int) * v.size)) at_ ((axF v r i).c.toNat + 1) (nxA v r at_ i)
def nxF (v : VO) (r : RY) (at_ : Int) : Int := nxA v r at_ 3
def NxOk (at_ b : Int) : Prop := b = -1 ∨ (at_ < b ∧ 0 ≤ b ∧ b ≤ 43200000000)
theorem stp_ok {at_ b t : Int} (h : NxOk at_ b) (h0 : -1 ≤ at_) (ht : t ≤ 43200000000) : NxOk at_ (stp at_ b t) := by
  unfold stp
  split
  · rename_i h1; exact .inr ⟨h1.1, by omega, ht⟩
  · exact h
theorem nxK_ok {f : Nat → Int} {at_ b : Int} (h0 : -1 ≤ at_) : ∀ k, NxOk at_ b → (∀ j, j < k → f j ≤ 43200000000) → NxOk at_ (nxK f at_ k b)
  | 0, h, _ => h
  | k + 1, h, hf => stp_ok (nxK_ok h0 k h (fun j hj => hf j (by omega))) h0 (hf k (by omega))
theorem place_bound {v : VO} {r : RY} (hv : v.Ok) (hr : r.Ok) (i k : Nat) (hk : k ≤ (axF v r i).c.toNat) : 0 ≤ (k : Int) * v.size ∧ (k : Int) * v.size ≤ 12000 := by
  have h1 := (ax_bound hv hr i).2.2
  have h2 := hv.size
  have h3 := rk_mul_abs (x := (k : Int)) (y := v.size) (K := 12) (M := 1000) (by decide) (by decide) (by omega) (by omega)
  exact ⟨Int.mul_nonneg (by omega) (by omega), by omega⟩
theorem wh_ax {v : VO} {r : RY} (hv : v.Ok) (hr : r.Ok) (i k : Nat) (hk : k ≤ (axF v r i).c.toNat) : whF (tkF r) (axF v r i) ((k : Int) * v.size) ≤ 43200000000 := by
  have h1 := place_bound hv hr i k hk
  have h2 := tkF_bound hr
  exact ((wh_bound (T := (tkF r : Int)) (a := axF v r i) (p := (k : Int) * v.size) (by omega) (ax_bound hv hr i).1 (by omega)).2).2
theorem nxA_ok {v : VO} {r : RY} (hv : v.Ok) (hr : r.Ok) {at_ : Int} (h0 : -1 ≤ at_) : ∀ i, NxOk at_ (nxA v r at_ i)
  | 0 => .inl rfl
  | i + 1 => by
    rw [nxA]
    split
    · exact nxA_ok hv hr h0 i
    · exact nxK_ok h0 _ (nxA_ok hv hr h0 i) (fun j hj => wh_ax hv hr i j (by omega))
theorem nxF_ok {v : VO} {r : RY} (hv : v.Ok) (hr : r.Ok) {at_ : Int} (h0 : -1 ≤ at_) : NxOk at_ (nxF v r at_) := nxA_ok hv hr h0 3
/-- the crossings -/
def atF (v : VO) (r : RY) : Nat → Int
  | 0 => 0
  | i + 1 => nxF v r (atF v r i)
theorem atF_low {v : VO} {r : RY} (hv : v.Ok) (hr : r.Ok) : ∀ i, -1 ≤ atF v r i ∧ atF v r i ≤ 43200000000
  | 0 => by simp [atF]
  | i + 1 => by
    have h1 := (atF_low hv hr i).1
    rcases nxF_ok hv hr h1 with h | h
    · rw [atF, h]; omega
    · rw [atF]; omega
theorem atF_up {v : VO} {r : RY} (hv : v.Ok) (hr : r.Ok) : ∀ i, (∀ j, j ≤ i → 0 ≤ atF v r j) → (i : Int) ≤ atF v r i
  | 0, _ => by simp [atF]
  | i + 1, h => by
    have h1 := atF_up hv hr i (fun j hj => h j (by omega))
    rcases nxF_ok hv hr (atF_low hv hr i).1 with h2 | h2
    · have := h (i + 1) (Nat.le_refl _); rw [atF, h2] at this; omega
    · rw [atF]; omega
/-- how many there are -/
def IsM (v : VO) (r : RY) (m : Nat) : Prop := (∀ j, j ≤ m → 0 ≤ atF v r j) ∧ nxF v r (atF v r m) < 0
theorem isM_eq {v : VO} {r : RY} {m m' : Nat} (h : IsM v r m) (h' : IsM v r m') : m = m' := by
  rcases Nat.lt_trichotomy m m' with e | e | e
  · have := h'.1 (m + 1) (by omega); rw [atF] at this; have := h.2; omega
  · exact e
  · have := h.1 (m' + 1) (by omega); rw [atF] at this; have := h'.2; omega
/-! ### cells and parts -/
/-- where an axis is in the middle; -1: outside -/
def cAx (T S : Int) (a : AX) (p q : Int) : Int := if 2 * a.b * T + a.t * (p + q) < 0 then -1 else if a.c ≤ (2 * a.b * T + a.t * (p + q)).tdiv (2 * T * S) then -1 else (2 * a.b * T + a.t * (p + q)).tdiv (2 * T * S)
def cellF (v : VO) (r : RY) (p q : Int) : Int :=
  if cAx (tkF r) v.size (axF v r 0) p q < 0 ∨ cAx (tkF r) v.size (axF v r 1) p q < 0 ∨ cAx (tkF r) v.size (axF v r 2) p q < 0 then -1
  else (cAx (tkF r) v.size (axF v r 2) p q * v.ny + cAx (tkF r) v.size (axF v r 1) p q) * v.nx + cAx (tkF r) v.size (axF v r 0) p q
theorem cAx_bound {T S : Int} {a : AX} {p q : Int} (hT : 1 ≤ T) (hS : 1 ≤ S) (ha : 1 ≤ a.c) : -1 ≤ cAx T S a p q ∧ cAx T S a p q < a.c := by
  unfold cAx
  split
  · omega
  · split
    · omega
    · rename_i h1 h2
      have : 0 ≤ (2 * a.b * T + a.t * (p + q)).tdiv (2 * T * S) := Int.tdiv_nonneg (by omega) (Int.mul_nonneg (by omega) (by omega))
      omega
theorem index_bound {x y z nx ny nz : Int} (hx : 0 ≤ x ∧ x < nx) (hy : 0 ≤ y ∧ y < ny) (hz : 0 ≤ z ∧ z < nz) : 0 ≤ (z * ny + y) * nx + x ∧ (z * ny + y) * nx + x < nx * ny * nz := by
  have h1 : 0 ≤ z * ny := Int.mul_nonneg hz.1 (by omega)
  have h2 : z * ny + y + 1 ≤ ny * nz := by
    have h3 : (z + 1) * ny ≤ nz * ny := Int.mul_le_mul_of_nonneg_right (by omega) (by omega)
    rw [Int.add_mul, Int.one_mul] at h3
    rw [Int.mul_comm ny nz]
    omega
  have h4 : 0 ≤ (z * ny + y) * nx := Int.mul_nonneg (by omega) (by omega)
  have h5 : (z * ny + y + 1) * nx ≤ ny * nz * nx := Int.mul_le_mul_of_nonneg_right h2 (by omega)
  rw [Int.add_mul, Int.one_mul] at h5
  have h6 : ny * nz * nx = nx * ny * nz := by rw [Int.mul_comm (ny * nz) nx, Int.mul_assoc]
  omega
theorem cell_bound {v : VO} {r : RY} (hv : v.Ok) (hr : r.Ok) (p q : Int) : -1 ≤ cellF v r p q ∧ cellF v r p q < v.nx * v.ny * v.nz := by
  have hT := tkF_bound hr
  have h0 := cAx_bound (T := (tkF r : Int)) (S := v.size) (a := axF v r 0) (p := p) (q := q) (by omega) hv.size.1 hv.x.1
  have h1 := cAx_bound (T := (tkF r : Int)) (S := v.size) (a := axF v r 1) (p := p) (q := q) (by omega) hv.size.1 hv.y.1
  have h2 := cAx_bound (T := (tkF r : Int)) (S := v.size) (a := axF v r 2) (p := p) (q := q) (by omega) hv.size.1 hv.z.1
  have hn : 0 < v.nx * v.ny * v.nz := Int.mul_pos (Int.mul_pos (by have := hv.x; omega) (by have := hv.y; omega)) (by have := hv.z; omega)
  unfold cellF
  split
  · omega
  · rename_i h
    have := index_bound (x := cAx (tkF r) v.size (axF v r 0) p q) (y := cAx (tkF r) v.size (axF v r 1) p q) (z := cAx (tkF r) v.size (axF v r 2) p q) (nx := v.nx) (ny := v.ny) (nz := v.nz) ⟨by omega, h0.2⟩ ⟨by omega, h1.2⟩ ⟨by omega, h2.2⟩
    omega
structure PT where
  cell : Int
  lo : Int
  hi : Int
def PT.val (p : PT) : Value := .agg #[.int .i64 p.cell, .int .i64 p.lo, .int .i64 p.hi]
/-- what is left of a part under a ground -/
def cutF (v : VO) (r : RY) (g : Nat → Int) (p : PT) : PT :=
  if 0 < r.dz then ⟨p.cell, p.lo, min p.hi (whF (tkF r) (axF v r 2) (g (p.cell.tmod (v.nx * v.ny)).toNat))⟩
  else if r.dz < 0 then ⟨p.cell, max p.lo (whF (tkF r) (axF v r 2) (g (p.cell.tmod (v.nx * v.ny)).toNat)), p.hi⟩
  else if g (p.cell.tmod (v.nx * v.ny)).toNat ≤ r.z then ⟨p.cell, p.lo, p.lo⟩ else p
/-- the part between two crossings -/
def oneF (v : VO) (r : RY) (g : Nat → Int) (p q : Int) : List PT :=
  if cellF v r p q < 0 then [] else if (cutF v r g ⟨cellF v r p q, p, q⟩).lo < (cutF v r g ⟨cellF v r p q, p, q⟩).hi then [cutF v r g ⟨cellF v r p q, p, q⟩] else []
/-- the parts behind the first k crossings -/
def prN (v : VO) (r : RY) (g : Nat → Int) : Nat → List PT
  | 0 => []
  | 1 => []
  | k + 2 => prN v r g (k + 1) ++ oneF v r g (atF v r k) (atF v r (k + 1))
end Go.Proofs.YtkdopjkdokgipaaGreatDoor
namespace Go.Proofs.YtkdopjkdokgipaaGreatDoor
open Go.RowKit
set_option linter.unusedVariables false
set_option linter.unusedSimpArgs false
theorem rk_below (V : World) (o : Obj) : Below V.heap.size V (V.alloc o) := (Below.refl _ _).alloc (Nat.le_refl _) _
theorem rk_two (W : World) (o1 o2 : Obj) : Below W.heap.size W ((W.alloc o1).alloc o2) ∧ ((W.alloc o1).alloc o2).heap[W.heap.size]? = some o1 ∧ ((W.alloc o1).alloc o2).heap[W.heap.size + 1]? = some o2 := by
  have a1 := rk_below W o1
  have a2 := rk_below (W.alloc o1) o2
  have z1 : (W.alloc o1).heap.size = W.heap.size + 1 := by simp
  refine ⟨a1.trans (a2.mono a1.size), (a2.block _ (by omega)).trans (heap_alloc_new W o1), ?_⟩
  have := heap_alloc_new (W.alloc o1) o2
  rwa [z1] at this
set_option maxHeartbeats 400000 in
theorem rkin_any (x a b : Int) (w : World) : Calls Tryz.prog 42 #[.int .i64 x, .int .i64 a, .int .i64 b] w fun e w' => e = .returned (.bool (inB x a b)) ∧ w = w' := by
  by_cases h1 : a ≤ x
  · by_cases h2 : x ≤ b
    · have HE := Lib.hid (inB_iff.2 ⟨h1, h2⟩)
      go_enter Tryz.func42, Tryz.ntmps42
      go_wp2
      go_ret
      exact ⟨ret_bool HE.out.symm, rfl⟩
    · have HE := Lib.hid (show inB x a b = false from by cases e : inB x a b; rfl; have := inB_iff.1 e; omega)
      go_enter Tryz.func42, Tryz.ntmps42
      go_wp2
      go_ret
      exact ⟨ret_bool HE.out.symm, rfl⟩
  · have HE := Lib.hid (show inB x a b = false from by cases e : inB x a b; rfl; have := inB_iff.1 e; omega)
    go_enter Tryz.func42, Tryz.ntmps42
    go_wp2
    go_ret
    exact ⟨ret_bool HE.out.symm, rfl⟩
set_option maxRecDepth 100000 in
set_option maxHeartbeats 1000000 in
theorem volume_any (v : VO) (w : World) : Calls Tryz.prog 39 #[v.val] w fun e w' => e = .returned (.bool (volB v)) ∧ Below w.heap.size w w' := by
  have HV := Lib.hid (show volB v = ((((inB v.nx 1 12 && inB v.ny 1 12) && inB v.nz 1 12) && decide (v.nx * v.ny * v.nz ≤ 600)) && inB v.size 1 1000) from rfl)
  have HI := Lib.hid (show inB v.nx 1 12 = true → inB v.ny 1 12 = true → inB v.nz 1 12 = true → (-144 ≤ v.nx * v.ny ∧ v.nx * v.ny ≤ 144) ∧ (-1728 ≤ v.nx * v.ny * v.nz ∧ v.nx * v.ny * v.nz ≤ 1728) from fun h1 h2 h3 => by
    have h1 := inB_iff.1 h1
    have h2 := inB_iff.1 h2
    have h3 := inB_iff.1 h3
    have h4 := rk_mul_abs (x := v.nx) (y := v.ny) (K := 12) (M := 12) (by decide) (by decide) (by omega) (by omega)
    have h5 := rk_mul_abs (x := v.nx * v.ny) (y := v.nz) (K := 144) (M := 12) (by decide) (by decide) (by omega) (by omega)
    omega)
  generalize volB v = RES at *
  unfold VO.val
  obtain ⟨nx, ny, nz, size⟩ := v
  dsimp only at *
  go_enter Tryz.func39, Tryz.ntmps39
  go_upto_region 1 with (fail)
  have HB := Lib.hid (rk_below w (.cells #[.int .i64 nx, .int .i64 ny, .int .i64 nz, .int .i64 size] 23))
  have hn := heap_alloc_new w (.cells #[.int .i64 nx, .int .i64 ny, .int .i64 nz, .int .i64 size] 23)
  generalize World.alloc w _ = V at *
  obtain ⟨k0, k1, k2, k3⟩ := cr4 hn
  clear hn
  obtain ⟨b1, hb1⟩ : ∃ b, inB nx 1 12 = b := ⟨_, rfl⟩
  cases b1
  · rw [hb1] at HV
    simp only [Bool.false_and] at HV
    go_wp2_with (go_at_call 42; refine (rkin_any _ _ _ _).mono ?_; rintro e w' ⟨rfl, rfl⟩; rw [hb1])
    go_ret
    exact ⟨ret_bool HV.out.symm, HB.out⟩
  obtain ⟨b2, hb2⟩ : ∃ b, inB ny 1 12 = b := ⟨_, rfl⟩
  cases b2
  · rw [hb1, hb2] at HV
    simp only [Bool.false_and, Bool.true_and] at HV
    go_wp2_with (go_at_call 42; refine (rkin_any _ _ _ _).mono ?_; rintro e w' ⟨rfl, rfl⟩; first | rw [hb1] | rw [hb2])
    go_ret
    exact ⟨ret_bool HV.out.symm, HB.out⟩
  obtain ⟨b3, hb3⟩ : ∃ b, inB nz 1 12 = b := ⟨_, rfl⟩
  cases b3
  · rw [hb1, hb2, hb3] at HV
    simp only [Bool.false_and, Bool.true_and] at HV
    go_wp2_with (go_at_call 42; refine (rkin_any _ _ _ _).mono ?_; rintro e w' ⟨rfl, rfl⟩; first | rw [hb1] | rw [hb2] | rw [hb3])
    go_ret
    exact ⟨ret_bool HV.out.symm, HB.out⟩
  obtain ⟨⟨m1, m2⟩, m3, m4⟩ := HI.out hb1 hb2 hb3
  rw [hb1, hb2, hb3] at HV
  simp only [Bool.true_and] at HV
  clear HI
  generalize hp : nx * ny = pq at *
  generalize hq : pq * nz = pqr at *
  by_cases h6 : pqr ≤ 600
  · rw [decide_eq_true h6, Bool.true_and] at HV
    generalize hb5 : inB size 1 1000 = b5 at *
    go_wp2_with (go_at_call 42; refine (rkin_any _ _ _ _).mono ?_; rintro e w' ⟨rfl, rfl⟩; first | rw [hb1] | rw [hb2] | rw [hb3] | rw [hb5])
    go_ret
    exact ⟨ret_bool HV.out.symm, HB.out⟩
  · rw [decide_eq_false h6, Bool.false_and] at HV
    go_wp2_with (go_at_call 42; refine (rkin_any _ _ _ _).mono ?_; rintro e w' ⟨rfl, rfl⟩; first | rw [hb1] | rw [hb2] | rw [hb3])
    go_ret
    exact ⟨ret_bool HV.out.symm, HB.out⟩
set_option maxRecDepth 100000 in
set_option maxHeartbeats 1000000 in
theorem when_any (v : VO) (r : RY) (a : AX) (p : Int) (w : World) (hr : r.Ok) (ht : a.t ≠ 0) (hb : -100000 ≤ a.b ∧ a.b ≤ 100000) (hp : -100000 ≤ p ∧ p ≤ 100000) :
    Calls Tryz.prog 102 #[wkVal v r, a.val, .int .i64 p] w fun e w' => e = .returned (.int .i64 (whF (tkF r) a p)) ∧ Below w.heap.size w w' := by
  have hT := tkF_bound hr
  obtain ⟨⟨m1, m2⟩, m3, m4⟩ := wh_bound (T := (tkF r : Int)) (a := a) (p := p) (by omega) hb hp
  have HW := Lib.hid (show whF (tkF r) a p = ((p - a.b) * (tkF r : Int)).tdiv a.t from rfl)
  generalize whF (tkF r) a p = RES at *
  unfold wkVal AX.val
  obtain ⟨nx, ny, nz, size⟩ := v
  obtain ⟨x, y, z, dx, dy, dz⟩ := r
  obtain ⟨ab, at_, ac⟩ := a
  dsimp only at *
  generalize ((tkF ⟨x, y, z, dx, dy, dz⟩ : Nat) : Int) = T at *
  obtain ⟨hb1, hb2⟩ := hb
  obtain ⟨hp1, hp2⟩ := hp
  go_enter Tryz.func102, Tryz.ntmps102
  go_upto_region 1 with (fail)
  obtain ⟨hVb, e1, e2⟩ := rk_two w (.cells #[.int .i64 nx, .int .i64 ny, .int .i64 nz, .int .i64 size, .int .i64 x, .int .i64 dx, .int .i64 nx, .int .i64 y, .int .i64 dy, .int .i64 ny, .int .i64 z, .int .i64 dz, .int .i64 nz, .int .i64 T] 96) (.cells #[.int .i64 ab, .int .i64 at_, .int .i64 ac] 93)
  have HB := Lib.hid hVb
  generalize World.alloc (World.alloc w _) _ = V at *
  have k0 : V.cell? ⟨w.heap.size, 13, none⟩ = some (.int .i64 T) := cell_of_row _ _ _ _ _ _ e1
  have k1 : V.cell? ⟨w.heap.size + 1, 0, none⟩ = some (.int .i64 ab) := cell_of_row _ _ _ _ _ _ e2
  have k2 : V.cell? ⟨w.heap.size + 1, 1, none⟩ = some (.int .i64 at_) := cell_of_row _ _ _ _ _ _ e2
  have hc : (at_ == 0) = false := beq_eq_false_iff_ne.2 ht
  clear hVb e1 e2 hT hr
  have m5 : -43200000000 ≤ ((p - ab) * T).tdiv at_ := by rw [← HW.out]; exact m3
  have m6 : ((p - ab) * T).tdiv at_ ≤ 43200000000 := by rw [← HW.out]; exact m4
  generalize hpr : (p - ab) * T = pr at *
  generalize hqu : pr.tdiv at_ = qu at *
  go_wp2
  obtain rfl := HW.out
  go_ret
  exact ⟨rfl, HB.out⟩
def plF (r : RY) : Nat → Int
  | 0 => r.x
  | 1 => r.y
  | _ => r.z
def tnF (r : RY) : Nat → Int
  | 0 => r.dx
  | 1 => r.dy
  | _ => r.dz
theorem rayB_no1 {r : RY} {j : Nat} (hj : j < 3) (h : inB (plF r j) (-100000) 100000 = false) : rayB r = false := by
  unfold rayB
  match j, hj with
  | 0, _ => rw [show inB r.x (-100000) 100000 = false from h]; rfl
  | 1, _ => rw [show inB r.y (-100000) 100000 = false from h]; simp
  | 2, _ => rw [show inB r.z (-100000) 100000 = false from h]; simp
theorem rayB_no2 {r : RY} {j : Nat} (hj : j < 3) (h : inB (tnF r j) (-60) 60 = false) : rayB r = false := by
  unfold rayB
  match j, hj with
  | 0, _ => rw [show inB r.dx (-60) 60 = false from h]; simp
  | 1, _ => rw [show inB r.dy (-60) 60 = false from h]; simp
  | 2, _ => rw [show inB r.dz (-60) 60 = false from h]; simp
theorem rayB_end {r : RY} (h1 : ∀ j, j < 3 → inB (plF r j) (-100000) 100000 = true) (h2 : ∀ j, j < 3 → inB (tnF r j) (-60) 60 = true) : rayB r = ((r.dx != 0 || r.dy != 0) || r.dz != 0) := by
  unfold rayB
  rw [show inB r.x (-100000) 100000 = true from h1 0 (by omega), show inB r.y (-100000) 100000 = true from h1 1 (by omega), show inB r.z (-100000) 100000 = true from h1 2 (by omega), show inB r.dx (-60) 60 = true from h2 0 (by omega), show inB r.dy (-60) 60 = true from h2 1 (by omega), show inB r.dz (-60) 60 = true from h2 2 (by omega)]
  simp
theorem ix3_0 (a b c : Int) (W : World) : (Instr.index 159 (.agg #[.int .i64 a, .int .i64 b, .int .i64 c]) (.int .i64 0)).run Tryz.prog W = .ok (.int .i64 a) W := by kernel_rfl
theorem ix3_1 (a b c : Int) (W : World) : (Instr.index 159 (.agg #[.int .i64 a, .int .i64 b, .int .i64 c]) (.int .i64 1)).run Tryz.prog W = .ok (.int .i64 b) W := by kernel_rfl
theorem ix3_2 (a b c : Int) (W : World) : (Instr.index 159 (.agg #[.int .i64 a, .int .i64 b, .int .i64 c]) (.int .i64 2)).run Tryz.prog W = .ok (.int .i64 c) W := by kernel_rfl
set_option maxRecDepth 100000 in
set_option maxHeartbeats 2000000 in
theorem ray_any (r : RY) (w : World) : Calls Tryz.prog 40 #[r.val] w fun e w' => e = .returned (.bool (rayB r)) ∧ Below w.heap.size w w' := by
  have HN1 := Lib.hid (fun (j : Nat) (hj : j < 3) (h : inB (plF r j) (-100000) 100000 = false) => rayB_no1 hj h)
  have HN2 := Lib.hid (fun (j : Nat) (hj : j < 3) (h : inB (tnF r j) (-60) 60 = false) => rayB_no2 hj h)
  have HEN := Lib.hid (fun (h1 : ∀ j, j < 3 → inB (plF r j) (-100000) 100000 = true) (h2 : ∀ j, j < 3 → inB (tnF r j) (-60) 60 = true) => rayB_end h1 h2)
  generalize rayB r = RES at *
  unfold RY.val
  go_enter Tryz.func40, Tryz.ntmps40
  go_upto_region 1 with (fail)
  have HB := Lib.hid (rk_below w (.cells #[.int .i64 r.x, .int .i64 r.y, .int .i64 r.z, .int .i64 r.dx, .int .i64 r.dy, .int .i64 r.dz] 26))
  have hn := heap_alloc_new w (.cells #[.int .i64 r.x, .int .i64 r.y, .int .i64 r.z, .int .i64 r.dx, .int .i64 r.dy, .int .i64 r.dz] 26)
  generalize World.alloc w _ = V at *
  obtain ⟨k0, k1, k2, k3, k4, k5⟩ := cr6 hn
  clear hn
  have hix0 := ix3_0 r.x r.y r.z; have hix1 := ix3_1 r.x r.y r.z; have hix2 := ix3_2 r.x r.y r.z
  have hiy0 := ix3_0 r.dx r.dy r.dz
  have hiy1 := ix3_1 r.dx r.dy r.dz
  have hiy2 := ix3_2 r.dx r.dy r.dz
  go_wp2
  go_loopw [14] (fun s wr => ∃ i : Nat, i ≤ 3 ∧ s = .int .i64 (i : Int) ∧ wr = V ∧ Hid (∀ j, j < i → inB (plF r j) (-100000) 100000 = true)) (fun s _ => 3 - (intOf s).toNat)
  case atStart => exact ⟨0, by omega, rfl, rfl, Lib.hid (fun j hj => by omega)⟩
  case round =>
    obtain ⟨i, hi, rfl, rfl, HA⟩ := hrel
    by_cases hlt : i < 3
    · have hcs : i = 0 ∨ i = 1 ∨ i = 2 := by omega
      rcases hcs with rfl | rfl | rfl
      · (generalize hb : inB (plF r 0) (-100000) 100000 = b at *; cases b; (have HE := Lib.hid (HN1.out 0 (by omega) hb); dsimp only [plF] at hb; go_wp2_with (go_at_call 42; refine (rkin_any _ _ _ _).mono ?_; rintro e w' ⟨rfl, rfl⟩; rw [hb]); go_ret; exact ⟨ret_bool HE.out.symm, HB.out⟩); (have HA2 := Lib.hid (fun j (hj : j < 0 + 1) => show inB (plF r j) (-100000) 100000 = true from (by by_cases e : j = 0; (subst e; exact hb); exact HA.out j (by omega))); dsimp only [plF] at hb; go_wp2_with (go_at_call 42; refine (rkin_any _ _ _ _).mono ?_; rintro e w' ⟨rfl, rfl⟩; rw [hb]); go_roundw; (case rel => first | exact ⟨0 + 1, by omega, by go_num, trivial, HA2⟩ | ((repeat apply Exists.intro); exact ⟨⟨0 + 1, by omega, by go_num, trivial, HA2⟩, rfl⟩)); (case measure => (simp [intOf]))))
      · (generalize hb : inB (plF r 1) (-100000) 100000 = b at *; cases b; (have HE := Lib.hid (HN1.out 1 (by omega) hb); dsimp only [plF] at hb; go_wp2_with (go_at_call 42; refine (rkin_any _ _ _ _).mono ?_; rintro e w' ⟨rfl, rfl⟩; rw [hb]); go_ret; exact ⟨ret_bool HE.out.symm, HB.out⟩); (have HA2 := Lib.hid (fun j (hj : j < 1 + 1) => show inB (plF r j) (-100000) 100000 = true from (by by_cases e : j = 1; (subst e; exact hb); exact HA.out j (by omega))); dsimp only [plF] at hb; go_wp2_with (go_at_call 42; refine (rkin_any _ _ _ _).mono ?_; rintro e w' ⟨rfl, rfl⟩; rw [hb]); go_roundw; (case rel => first | exact ⟨1 + 1, by omega, by go_num, trivial, HA2⟩ | ((repeat apply Exists.intro); exact ⟨⟨1 + 1, by omega, by go_num, trivial, HA2⟩, rfl⟩)); (case measure => (simp [intOf]))))
      · (generalize hb : inB (plF r 2) (-100000) 100000 = b at *; cases b; (have HE := Lib.hid (HN1.out 2 (by omega) hb); dsimp only [plF] at hb; go_wp2_with (go_at_call 42; refine (rkin_any _ _ _ _).mono ?_; rintro e w' ⟨rfl, rfl⟩; rw [hb]); go_ret; exact ⟨ret_bool HE.out.symm, HB.out⟩); (have HA2 := Lib.hid (fun j (hj : j < 2 + 1) => show inB (plF r j) (-100000) 100000 = true from (by by_cases e : j = 2; (subst e; exact hb); exact HA.out j (by omega))); dsimp only [plF] at hb; go_wp2_with (go_at_call 42; refine (rkin_any _ _ _ _).mono ?_; rintro e w' ⟨rfl, rfl⟩; rw [hb]); go_roundw; (case rel => first | exact ⟨2 + 1, by omega, by go_num, trivial, HA2⟩ | ((repeat apply Exists.intro); exact ⟨⟨2 + 1, by omega, by go_num, trivial, HA2⟩, rfl⟩)); (case measure => (simp [intOf]))))
    · obtain rfl : i = 3 := by omega
      have HA1 := HA
      clear HA
      go_wp2
      go_loopw [28] (fun s wz => ∃ i : Nat, i ≤ 3 ∧ s = .int .i64 (i : Int) ∧ wz = wr ∧ Hid (∀ j, j < i → inB (tnF r j) (-60) 60 = true)) (fun s _ => 3 - (intOf s).toNat)
      case atStart => exact ⟨0, by omega, rfl, rfl, Lib.hid (fun j hj => by omega)⟩
      case round =>
        obtain ⟨i, hi, rfl, rfl, HA⟩ := hrel
        by_cases hlt : i < 3
        · have hcs : i = 0 ∨ i = 1 ∨ i = 2 := by omega
          rcases hcs with rfl | rfl | rfl
          · (generalize hb : inB (tnF r 0) (-60) 60 = b at *; cases b; (have HE := Lib.hid (HN2.out 0 (by omega) hb); dsimp only [tnF] at hb; go_wp2_with (go_at_call 42; refine (rkin_any _ _ _ _).mono ?_; rintro e w' ⟨rfl, rfl⟩; rw [hb]); go_ret; exact ⟨ret_bool HE.out.symm, HB.out⟩); (have HA2 := Lib.hid (fun j (hj : j < 0 + 1) => show inB (tnF r j) (-60) 60 = true from (by by_cases e : j = 0; (subst e; exact hb); exact HA.out j (by omega))); dsimp only [tnF] at hb; go_wp2_with (go_at_call 42; refine (rkin_any _ _ _ _).mono ?_; rintro e w' ⟨rfl, rfl⟩; rw [hb]); go_roundw; (case rel => first | exact ⟨0 + 1, by omega, by go_num, trivial, HA2⟩ | ((repeat apply Exists.intro); exact ⟨⟨0 + 1, by omega, by go_num, trivial, HA2⟩, rfl⟩)); (case measure => (simp [intOf]))))
          · (generalize hb : inB (tnF r 1) (-60) 60 = b at *; cases b; (have HE := Lib.hid (HN2.out 1 (by omega) hb); dsimp only [tnF] at hb; go_wp2_with (go_at_call 42; refine (rkin_any _ _ _ _).mono ?_; rintro e w' ⟨rfl, rfl⟩; rw [hb]); go_ret; exact ⟨ret_bool HE.out.symm, HB.out⟩); (have HA2 := Lib.hid (fun j (hj : j < 1 + 1) => show inB (tnF r j) (-60) 60 = true from (by by_cases e : j = 1; (subst e; exact hb); exact HA.out j (by omega))); dsimp only [tnF] at hb; go_wp2_with (go_at_call 42; refine (rkin_any _ _ _ _).mono ?_; rintro e w' ⟨rfl, rfl⟩; rw [hb]); go_roundw; (case rel => first | exact ⟨1 + 1, by omega, by go_num, trivial, HA2⟩ | ((repeat apply Exists.intro); exact ⟨⟨1 + 1, by omega, by go_num, trivial, HA2⟩, rfl⟩)); (case measure => (simp [intOf]))))
          · (generalize hb : inB (tnF r 2) (-60) 60 = b at *; cases b; (have HE := Lib.hid (HN2.out 2 (by omega) hb); dsimp only [tnF] at hb; go_wp2_with (go_at_call 42; refine (rkin_any _ _ _ _).mono ?_; rintro e w' ⟨rfl, rfl⟩; rw [hb]); go_ret; exact ⟨ret_bool HE.out.symm, HB.out⟩); (have HA2 := Lib.hid (fun j (hj : j < 2 + 1) => show inB (tnF r j) (-60) 60 = true from (by by_cases e : j = 2; (subst e; exact hb); exact HA.out j (by omega))); dsimp only [tnF] at hb; go_wp2_with (go_at_call 42; refine (rkin_any _ _ _ _).mono ?_; rintro e w' ⟨rfl, rfl⟩; rw [hb]); go_roundw; (case rel => first | exact ⟨2 + 1, by omega, by go_num, trivial, HA2⟩ | ((repeat apply Exists.intro); exact ⟨⟨2 + 1, by omega, by go_num, trivial, HA2⟩, rfl⟩)); (case measure => (simp [intOf]))))
        · obtain rfl : i = 3 := by omega
          have HE := Lib.hid (HEN.out HA1.out HA.out)
          clear HA HA1 HEN HN1 HN2
          cases h1 : (r.dx != 0)
          · cases h2 : (r.dy != 0)
            · cases h3 : (r.dz != 0)
              · rw [h1, h2, h3] at HE
                go_wp2
                go_ret
                exact ⟨ret_bool HE.out.symm, HB.out⟩
              · rw [h1, h2, h3] at HE
                go_wp2
                go_ret
                exact ⟨ret_bool HE.out.symm, HB.out⟩
            · rw [h1, h2] at HE
              simp only [Bool.or_true, Bool.true_or] at HE
              go_wp2
              go_ret
              exact ⟨ret_bool HE.out.symm, HB.out⟩
          · rw [h1] at HE
            simp only [Bool.or_true, Bool.true_or] at HE
            go_wp2
            go_ret
            exact ⟨ret_bool HE.out.symm, HB.out⟩
end Go.Proofs.YtkdopjkdokgipaaGreatDoor
namespace Go.Proofs.YtkdopjkdokgipaaGreatDoor
open Go.RowKit
set_option linter.unusedVariables false
set_option linter.unusedSimpArgs false
theorem tkN_succ {r : RY} {i : Nat} (h : i < 3) : tkN r (i + 1) = tkS (tkN r i) (tnF r i) := by
  match i, h with
  | 0, _ => rfl
  | 1, _ => rfl
  | 2, _ => rfl
theorem tn_bound {r : RY} (h : r.Ok) (i : Nat) : -60 ≤ tnF r i ∧ tnF r i ≤ 60 := by
  match i with
  | 0 => exact h.dx
  | 1 => exact h.dy
  | n + 2 => exact h.dz
theorem max_neg (d : Int) : (if d < -d then -d else d) = ((d.natAbs : Nat) : Int) := by split <;> omega
set_option maxRecDepth 100000 in
set_option maxHeartbeats 2000000 in
theorem ticks_any (r : RY) (w : World) (hr : r.Ok) : Calls Tryz.prog 84 #[r.val] w fun e w' => e = .returned (.int .i64 (tkF r : Int)) ∧ Below w.heap.size w w' := by
  have HR := Lib.hid hr
  have HE := Lib.hid (show tkF r = tkN r 3 from rfl)
  generalize tkF r = RES at *
  unfold RY.val
  clear hr
  go_enter Tryz.func84, Tryz.ntmps84
  go_upto_region 1 with (fail)
  have HB := Lib.hid (rk_below w (.cells #[.int .i64 r.x, .int .i64 r.y, .int .i64 r.z, .int .i64 r.dx, .int .i64 r.dy, .int .i64 r.dz] 26))
  have hn := heap_alloc_new w (.cells #[.int .i64 r.x, .int .i64 r.y, .int .i64 r.z, .int .i64 r.dx, .int .i64 r.dy, .int .i64 r.dz] 26)
  generalize World.alloc w _ = V at *
  have k3 := cell_of_row _ _ 3 _ _ _ hn
  have k4 := cell_of_row _ _ 4 _ _ _ hn
  have k5 := cell_of_row _ _ 5 _ _ _ hn
  clear hn
  have hiy0 := ix3_0 r.dx r.dy r.dz
  have hiy1 := ix3_1 r.dx r.dy r.dz
  have hiy2 := ix3_2 r.dx r.dy r.dz
  have HX0 := Lib.hid hiy0
  go_wp2
  go_loopw [3, 15] (fun s3 s15 wr => ∃ i : Nat, i ≤ 3 ∧ s15 = .int .i64 (i : Int) ∧ s3 = .int .i64 (tkN r i : Int) ∧ Hid (Below w.heap.size w wr)) (fun _ s15 _ => 3 - (intOf s15).toNat)
  case atStart => exact ⟨0, by omega, rfl, rfl, HB⟩
  case round =>
    obtain ⟨i, hi, rfl, rfl, HB⟩ := hrel
    by_cases hlt : i < 3
    · have hlt' : (i : Int) < 3 := by omega
      have HSU := Lib.hid (tkN_succ (r := r) hlt)
      obtain ⟨hb1, hb2⟩ := tn_bound HR.out i
      have hix : ∀ W : World, (Instr.index 159 (.agg #[.int .i64 r.dx, .int .i64 r.dy, .int .i64 r.dz]) (.int .i64 (i : Int))).run Tryz.prog W = .ok (.int .i64 (tnF r i)) W := by
        match i, hlt with
        | 0, _ => exact ix3_0 _ _ _
        | 1, _ => exact ix3_1 _ _ _
        | 2, _ => exact ix3_2 _ _ _
      obtain ⟨ho1, ho2⟩ := tkN_bound HR.out i
      clear hiy0 hiy1 hiy2 k3 k4 k5
      generalize tnF r i = d at *
      generalize tkN r i = out at *
      have HMX := Lib.hid (max_neg d)
      go_upto_region 6 with (fail)
      rw [HMX.out]
      have HSE := Lib.hid (show tkS out d = if d.natAbs = 0 then out else out / Nat.gcd out d.natAbs * d.natAbs from rfl)
      have hD60 : d.natAbs ≤ 60 := by omega
      clear hix HX0
      generalize d.natAbs = D at *
      by_cases h0 : D = 0
      · have HS2 := Lib.hid (show tkN r (i + 1) = out from by rw [HSU.out, HSE.out, if_pos h0])
        have h0' : ¬ (0 : Int) < (D : Int) := by omega
        go_wp2
        go_roundw
        case rel => first | exact ⟨i + 1, by omega, by go_num, by rw [HS2.out], HB⟩ | ((repeat apply Exists.intro); exact ⟨⟨i + 1, by omega, by go_num, by rw [HS2.out], HB⟩, rfl⟩)
        case measure => simp [intOf]; omega
      · have HS2 := Lib.hid (show tkN r (i + 1) = out / Nat.gcd out D * D from by rw [HSU.out, HSE.out, if_neg h0])
        have h0' : (0 : Int) < (D : Int) := by omega
        have hg : Nat.gcd out D ≠ 0 := by have := Nat.gcd_pos_of_pos_left D (show 0 < out by omega); omega
        have HBo := HB
        clear HB HSU HSE HMX
        go_wp2
        go_loopw [6, 7] (fun s6 s7 wx => ∃ a b : Nat, s6 = .int .i64 (a : Int) ∧ s7 = .int .i64 (b : Int) ∧ Nat.gcd a b = Nat.gcd out D ∧ a ≤ 216000 ∧ b ≤ 60 ∧ Hid (Below w.heap.size w wx)) (fun _ s7 _ => (intOf s7).toNat)
        case atStart => exact ⟨out, D, rfl, rfl, rfl, ho2, hD60, HBo⟩
        case round =>
          obtain ⟨a, b, rfl, rfl, hgc, ha, hb, HB⟩ := hrel
          clear HBo
          by_cases hb0 : b = 0
          · subst hb0
            rw [Nat.gcd_zero_right] at hgc
            subst hgc
            generalize Nat.gcd out D = G at *
            have hq1 : (out : Int).tdiv (G : Int) = ((out / G : Nat) : Int) := rfl
            have hq2 : out / G ≤ 216000 := Nat.le_trans (Nat.div_le_self _ _) ho2
            have hq3 : out / G * D ≤ 216000 * 60 := Nat.mul_le_mul hq2 hD60
            have hq4 : ((out / G : Nat) : Int) * (D : Int) = ((out / G * D : Nat) : Int) := by rw [Int.natCast_mul]
            have hG : ((G : Int) == 0) = false := beq_eq_false_iff_ne.2 (by omega)
            generalize out / G = q at *
            generalize q * D = o2 at *
            go_wp2
            go_roundw
            case rel => first | exact ⟨i + 1, by omega, by go_num, by rw [HS2.out], HB⟩ | ((repeat apply Exists.intro); exact ⟨⟨i + 1, by omega, by go_num, by rw [HS2.out], HB⟩, rfl⟩)
            case measure => simp [intOf]; omega
          · have hb0' : (0 : Int) < (b : Int) := by omega
            have hbn : ((b : Int) == 0) = false := beq_eq_false_iff_ne.2 (by omega)
            have hmo : (a : Int).tmod (b : Int) = ((a % b : Nat) : Int) := rfl
            have hlt2 : a % b < b := Nat.mod_lt _ (by omega)
            have hg2 : Nat.gcd b (a % b) = Nat.gcd out D := by rw [← hgc, Nat.gcd_comm b, ← Nat.gcd_rec, Nat.gcd_comm]
            generalize a % b = m at *
            go_upto_region 9 with (fail)
            (refine wp_region_calm (wr.heap.size) (by kernel_rfl) (by kernel_rfl) ?_; (repeat (first | go_big_quiet_step (fail) | quiet_step (fail))); refine wpQuiet_nil ?_; intro _ hw'; obtain ⟨xq, hw''⟩ := hw'; subst hw'')
            have HB2 := Lib.hid (HB.out.trans ((Calm.below xq).mono HB.out.size))
            generalize Calm.val xq = wq at *
            go_wp2
            go_roundw
            case rel => first | exact ⟨b, m, rfl, rfl, hg2, by omega, by omega, HB2⟩ | ((repeat apply Exists.intro); exact ⟨⟨b, m, rfl, rfl, hg2, by omega, by omega, HB2⟩, rfl⟩)
            case measure => simp [intOf]; omega
    · obtain rfl : i = 3 := by omega
      have hlt' : ¬ (3 : Int) < 3 := by omega
      rw [← HE.out]
      go_wp2
      go_ret
      exact ⟨rfl, HB.out⟩
end Go.Proofs.YtkdopjkdokgipaaGreatDoor
namespace Go.Proofs.YtkdopjkdokgipaaGreatDoor
open Go.RowKit
set_option linter.unusedVariables false
def addrOf : Value → Addr | .pointer (some a) => a | _ => ⟨0, 0, none⟩
theorem addrOf_ptr (a : Addr) : addrOf (.pointer (some a)) = a := rfl
def aggOf : Value → Array Value | .agg cs => cs | _ => #[]
theorem aggOf_agg (cs : Array Value) : aggOf (.agg cs) = cs := rfl
attribute [go_sem] addrOf_ptr aggOf_agg
section
variable {P : Program} {t : TypeId}
theorem exec_load_n {d : TypeDesc} (n : Nat) (hu : P.underlying t = some d) (hd : d.isRow = true) (hi : (P.info? t).map (·.size) = some n) (ρ : Operand → Value) (x : Operand) (o : Oper) (ho : o.op = .load t x) (w : World) (b f : Nat)
    (hx : ρ x = .pointer (some ⟨b, f, none⟩)) (hc : ∀ j, j < n → (w.cell? ⟨b, f + j, none⟩).isSome = true) :
    (execOp ρ o).run P w = .ok (.value (.agg ((List.range n).map fun j => (w.cell? ⟨b, f + j, none⟩).getD undef).toArray)) w := by
  have hr : w.rangeAt b f ((List.range n).map fun j => (w.cell? ⟨b, f + j, none⟩).getD undef) := by
    intro j v hv
    rw [List.getElem?_map] at hv
    by_cases hj : j < n
    · rw [List.getElem?_range hj] at hv
      obtain ⟨u, hu⟩ := Option.isSome_iff_exists.1 (hc j hj)
      simp only [Option.map_some, hu, Option.getD_some, Option.some.injEq] at hv
      rw [hu, hv]
    · rw [List.getElem?_eq_none (by simp; omega)] at hv
      cases hv
  unfold execOp
  simp only [ho, hx, Sem.run_bind, run_loadAt_mid w b f t _ d hr hu hd (by simpa using hi), Result.andThen_ok, Sem.run_pure]
theorem exec_store_n (n : Nat) (hi : (P.info? t).map (·.size) = some n) (ρ : Operand → Value) (x y : Operand) (o : Oper) (ho : o.op = .store t x y) (w : World) (b f : Nat) (cs : Array Value)
    (hx : ρ x = .pointer (some ⟨b, f, none⟩)) (hy : ρ y = .agg cs) (hn : cs.size = n) (h1 : cs.all (·.oneCell') = true) (hc : w.there b f n) :
    (execOp ρ o).run P w = .ok .skip (w.setCells b f cs.toList) := by
  unfold execOp
  simp only [ho, hx, hy, Sem.run_bind, run_storeAt_mid w b f t cs (by rw [hn]; exact hc) (by rw [hn]; exact hi) h1, Result.andThen_ok, Sem.run_pure]
end
theorem setCells_alloc_gen (w : World) (t : TypeId) : ∀ (vs : List Value) (o : Nat) (zs : Array Value), o + vs.length = zs.size → (w.alloc (.cells zs t)).setCells w.heap.size o vs = w.alloc (.cells (zs.extract 0 o ++ vs.toArray) t)
  | [], o, zs, h => by
    have : zs.extract 0 o = zs := by simp at h; subst h; simp
    simp [World.setCells, this]
  | v :: r, o, zs, h => by
    simp only [List.length_cons] at h
    rw [World.setCells, World.setCell_alloc_at _ _ _ _ _ rfl, setCells_alloc_gen w t r (o + 1) _ (by simp; omega)]
    congr 2
    apply Array.ext
    · simp; omega
    · intro i h1 h2
      simp only [Array.getElem_append, Array.getElem_extract, Array.size_extract, Array.size_setIfInBounds]
      grind
theorem setCells_alloc_last {w : World} {t : TypeId} {zs : Array Value} {vs : List Value} {b : Nat} (hb : b = w.heap.size) (h : vs.length = zs.size) : (w.alloc (.cells zs t)).setCells b 0 vs = w.alloc (.cells vs.toArray t) := by
  subst hb; rw [setCells_alloc_gen w t vs 0 zs (by omega)]; simp
theorem setCells_alloc_other (b : Nat) (o2 : Obj) : ∀ (vs : List Value) (o : Nat) (w : World), b < w.heap.size → (w.alloc o2).setCells b o vs = (w.setCells b o vs).alloc o2
  | [], _, _, _ => rfl
  | v :: r, o, w, h => by
    have e : (w.alloc o2).setCell ⟨b, o, none⟩ v = (w.setCell ⟨b, o, none⟩ v).alloc o2 := by
      simp only [World.alloc, World.setCell]
      congr 1
      apply Array.ext
      · simp
      · intro i h1 h2
        simp only [Array.getElem_modify, Array.getElem_push, Array.size_modify]
        grind
    rw [World.setCells, World.setCells, e, setCells_alloc_other b o2 r (o + 1) _ (by simpa [World.setCell] using h)]

theorem exec_load9 {P : Program} {t : TypeId} {d : TypeDesc} (hu : P.underlying t = some d) (hd : d.isRow = true) (hi : (P.info? t).map (·.size) = some 9) (ρ : Operand → Value) (x : Operand) (dst : Option Tmp) (ty : TypeId) (pos : String) (after : Array Edge) (guard : Option (Nat × Bool)) (w : World)
    (hx : ρ x = .pointer (some ⟨(addrOf (ρ x)).block, (addrOf (ρ x)).off, none⟩))
    (hc : (w.cell? ⟨(addrOf (ρ x)).block, (addrOf (ρ x)).off, none⟩).isSome = true ∧ (w.cell? ⟨(addrOf (ρ x)).block, (addrOf (ρ x)).off + 1, none⟩).isSome = true ∧ (w.cell? ⟨(addrOf (ρ x)).block, (addrOf (ρ x)).off + 2, none⟩).isSome = true ∧ (w.cell? ⟨(addrOf (ρ x)).block, (addrOf (ρ x)).off + 3, none⟩).isSome = true ∧ (w.cell? ⟨(addrOf (ρ x)).block, (addrOf (ρ x)).off + 4, none⟩).isSome = true ∧ (w.cell? ⟨(addrOf (ρ x)).block, (addrOf (ρ x)).off + 5, none⟩).isSome = true ∧ (w.cell? ⟨(addrOf (ρ x)).block, (addrOf (ρ x)).off + 6, none⟩).isSome = true ∧ (w.cell? ⟨(addrOf (ρ x)).block, (addrOf (ρ x)).off + 7, none⟩).isSome = true ∧ (w.cell? ⟨(addrOf (ρ x)).block, (addrOf (ρ x)).off + 8, none⟩).isSome = true) :
    (execOp ρ ⟨dst, .load t x, ty, pos, after, guard⟩).run P w = .ok (.value (.agg #[(w.cell? ⟨(addrOf (ρ x)).block, (addrOf (ρ x)).off, none⟩).getD undef, (w.cell? ⟨(addrOf (ρ x)).block, (addrOf (ρ x)).off + 1, none⟩).getD undef, (w.cell? ⟨(addrOf (ρ x)).block, (addrOf (ρ x)).off + 2, none⟩).getD undef, (w.cell? ⟨(addrOf (ρ x)).block, (addrOf (ρ x)).off + 3, none⟩).getD undef, (w.cell? ⟨(addrOf (ρ x)).block, (addrOf (ρ x)).off + 4, none⟩).getD undef, (w.cell? ⟨(addrOf (ρ x)).block, (addrOf (ρ x)).off + 5, none⟩).getD undef, (w.cell? ⟨(addrOf (ρ x)).block, (addrOf (ρ x)).off + 6, none⟩).getD undef, (w.cell? ⟨(addrOf (ρ x)).block, (addrOf (ρ x)).off + 7, none⟩).getD undef, (w.cell? ⟨(addrOf (ρ x)).block, (addrOf (ρ x)).off + 8, none⟩).getD undef])) w := by
  obtain ⟨h0, h1, h2, h3, h4, h5, h6, h7, h8⟩ := hc
  exact exec_load_n 9 hu hd hi ρ x _ rfl w _ _ hx (fun j hj => by match j, hj with | 0, _ => exact h0 | 1, _ => exact h1 | 2, _ => exact h2 | 3, _ => exact h3 | 4, _ => exact h4 | 5, _ => exact h5 | 6, _ => exact h6 | 7, _ => exact h7 | 8, _ => exact h8 | k + 9, h => omega)
theorem exec_store9 {P : Program} {t : TypeId} (hi : (P.info? t).map (·.size) = some 9) (ρ : Operand → Value) (x y : Operand) (dst : Option Tmp) (ty : TypeId) (pos : String) (after : Array Edge) (guard : Option (Nat × Bool)) (w : World)
    (hx : ρ x = .pointer (some ⟨(addrOf (ρ x)).block, (addrOf (ρ x)).off, none⟩)) (hy : ρ y = .agg (aggOf (ρ y))) (hn : (aggOf (ρ y)).size = 9) (hone : (aggOf (ρ y)).toList.all (·.oneCell') = true)
    (hc : ((w.cell? ⟨(addrOf (ρ x)).block, (addrOf (ρ x)).off, none⟩).isSome = true ∧ w.frozen? ⟨(addrOf (ρ x)).block, (addrOf (ρ x)).off, none⟩ = false) ∧ ((w.cell? ⟨(addrOf (ρ x)).block, (addrOf (ρ x)).off + 1, none⟩).isSome = true ∧ w.frozen? ⟨(addrOf (ρ x)).block, (addrOf (ρ x)).off + 1, none⟩ = false) ∧ ((w.cell? ⟨(addrOf (ρ x)).block, (addrOf (ρ x)).off + 2, none⟩).isSome = true ∧ w.frozen? ⟨(addrOf (ρ x)).block, (addrOf (ρ x)).off + 2, none⟩ = false) ∧ ((w.cell? ⟨(addrOf (ρ x)).block, (addrOf (ρ x)).off + 3, none⟩).isSome = true ∧ w.frozen? ⟨(addrOf (ρ x)).block, (addrOf (ρ x)).off + 3, none⟩ = false) ∧ ((w.cell? ⟨(addrOf (ρ x)).block, (addrOf (ρ x)).off + 4, none⟩).isSome = true ∧ w.frozen? ⟨(addrOf (ρ x)).block, (addrOf (ρ x)).off + 4, none⟩ = false) ∧ ((w.cell? ⟨(addrOf (ρ x)).block, (addrOf (ρ x)).off + 5, none⟩).isSome = true ∧ w.frozen? ⟨(addrOf (ρ x)).block, (addrOf (ρ x)).off + 5, none⟩ = false) ∧ ((w.cell? ⟨(addrOf (ρ x)).block, (addrOf (ρ x)).off + 6, none⟩).isSome = true ∧ w.frozen? ⟨(addrOf (ρ x)).block, (addrOf (ρ x)).off + 6, none⟩ = false) ∧ ((w.cell? ⟨(addrOf (ρ x)).block, (addrOf (ρ x)).off + 7, none⟩).isSome = true ∧ w.frozen? ⟨(addrOf (ρ x)).block, (addrOf (ρ x)).off + 7, none⟩ = false) ∧ ((w.cell? ⟨(addrOf (ρ x)).block, (addrOf (ρ x)).off + 8, none⟩).isSome = true ∧ w.frozen? ⟨(addrOf (ρ x)).block, (addrOf (ρ x)).off + 8, none⟩ = false)) :
    (execOp ρ ⟨dst, .store t x y, ty, pos, after, guard⟩).run P w = .ok .skip (w.setCells (addrOf (ρ x)).block (addrOf (ρ x)).off (aggOf (ρ y)).toList) := by
  obtain ⟨h0, h1, h2, h3, h4, h5, h6, h7, h8⟩ := hc
  exact exec_store_n 9 hi ρ x y _ rfl w _ _ _ hx hy hn (by rw [← Array.all_toList]; exact hone) (fun j hj => by match j, hj with | 0, _ => exact h0 | 1, _ => exact h1 | 2, _ => exact h2 | 3, _ => exact h3 | 4, _ => exact h4 | 5, _ => exact h5 | 6, _ => exact h6 | 7, _ => exact h7 | 8, _ => exact h8 | k + 9, h => omega)
theorem exec_load14 {P : Program} {t : TypeId} {d : TypeDesc} (hu : P.underlying t = some d) (hd : d.isRow = true) (hi : (P.info? t).map (·.size) = some 14) (ρ : Operand → Value) (x : Operand) (dst : Option Tmp) (ty : TypeId) (pos : String) (after : Array Edge) (guard : Option (Nat × Bool)) (w : World)
    (hx : ρ x = .pointer (some ⟨(addrOf (ρ x)).block, (addrOf (ρ x)).off, none⟩))
    (hc : (w.cell? ⟨(addrOf (ρ x)).block, (addrOf (ρ x)).off, none⟩).isSome = true ∧ (w.cell? ⟨(addrOf (ρ x)).block, (addrOf (ρ x)).off + 1, none⟩).isSome = true ∧ (w.cell? ⟨(addrOf (ρ x)).block, (addrOf (ρ x)).off + 2, none⟩).isSome = true ∧ (w.cell? ⟨(addrOf (ρ x)).block, (addrOf (ρ x)).off + 3, none⟩).isSome = true ∧ (w.cell? ⟨(addrOf (ρ x)).block, (addrOf (ρ x)).off + 4, none⟩).isSome = true ∧ (w.cell? ⟨(addrOf (ρ x)).block, (addrOf (ρ x)).off + 5, none⟩).isSome = true ∧ (w.cell? ⟨(addrOf (ρ x)).block, (addrOf (ρ x)).off + 6, none⟩).isSome = true ∧ (w.cell? ⟨(addrOf (ρ x)).block, (addrOf (ρ x)).off + 7, none⟩).isSome = true ∧ (w.cell? ⟨(addrOf (ρ x)).block, (addrOf (ρ x)).off + 8, none⟩).isSome = true ∧ (w.cell? ⟨(addrOf (ρ x)).block, (addrOf (ρ x)).off + 9, none⟩).isSome = true ∧ (w.cell? ⟨(addrOf (ρ x)).block, (addrOf (ρ x)).off + 10, none⟩).isSome = true ∧ (w.cell? ⟨(addrOf (ρ x)).block, (addrOf (ρ x)).off + 11, none⟩).isSome = true ∧ (w.cell? ⟨(addrOf (ρ x)).block, (addrOf (ρ x)).off + 12, none⟩).isSome = true ∧ (w.cell? ⟨(addrOf (ρ x)).block, (addrOf (ρ x)).off + 13, none⟩).isSome = true) :
    (execOp ρ ⟨dst, .load t x, ty, pos, after, guard⟩).run P w = .ok (.value (.agg #[(w.cell? ⟨(addrOf (ρ x)).block, (addrOf (ρ x)).off, none⟩).getD undef, (w.cell? ⟨(addrOf (ρ x)).block, (addrOf (ρ x)).off + 1, none⟩).getD undef, (w.cell? ⟨(addrOf (ρ x)).block, (addrOf (ρ x)).off + 2, none⟩).getD undef, (w.cell? ⟨(addrOf (ρ x)).block, (addrOf (ρ x)).off + 3, none⟩).getD undef, (w.cell? ⟨(addrOf (ρ x)).block, (addrOf (ρ x)).off + 4, none⟩).getD undef, (w.cell? ⟨(addrOf (ρ x)).block, (addrOf (ρ x)).off + 5, none⟩).getD undef, (w.cell? ⟨(addrOf (ρ x)).block, (addrOf (ρ x)).off + 6, none⟩).getD undef, (w.cell? ⟨(addrOf (ρ x)).block, (addrOf (ρ x)).off + 7, none⟩).getD undef, (w.cell? ⟨(addrOf (ρ x)).block, (addrOf (ρ x)).off + 8, none⟩).getD undef, (w.cell? ⟨(addrOf (ρ x)).block, (addrOf (ρ x)).off + 9, none⟩).getD undef, (w.cell? ⟨(addrOf (ρ x)).block, (addrOf (ρ x)).off + 10, none⟩).getD undef, (w.cell? ⟨(addrOf (ρ x)).block, (addrOf (ρ x)).off + 11, none⟩).getD undef, (w.cell? ⟨(addrOf (ρ x)).block, (addrOf (ρ x)).off + 12, none⟩).getD undef, (w.cell? ⟨(addrOf (ρ x)).block, (addrOf (ρ x)).off + 13, none⟩).getD undef])) w := by
  obtain ⟨h0, h1, h2, h3, h4, h5, h6, h7, h8, h9, h10, h11, h12, h13⟩ := hc
  exact exec_load_n 14 hu hd hi ρ x _ rfl w _ _ hx (fun j hj => by match j, hj with | 0, _ => exact h0 | 1, _ => exact h1 | 2, _ => exact h2 | 3, _ => exact h3 | 4, _ => exact h4 | 5, _ => exact h5 | 6, _ => exact h6 | 7, _ => exact h7 | 8, _ => exact h8 | 9, _ => exact h9 | 10, _ => exact h10 | 11, _ => exact h11 | 12, _ => exact h12 | 13, _ => exact h13 | k + 14, h => omega)
theorem exec_store14 {P : Program} {t : TypeId} (hi : (P.info? t).map (·.size) = some 14) (ρ : Operand → Value) (x y : Operand) (dst : Option Tmp) (ty : TypeId) (pos : String) (after : Array Edge) (guard : Option (Nat × Bool)) (w : World)
    (hx : ρ x = .pointer (some ⟨(addrOf (ρ x)).block, (addrOf (ρ x)).off, none⟩)) (hy : ρ y = .agg (aggOf (ρ y))) (hn : (aggOf (ρ y)).size = 14) (hone : (aggOf (ρ y)).toList.all (·.oneCell') = true)
    (hc : ((w.cell? ⟨(addrOf (ρ x)).block, (addrOf (ρ x)).off, none⟩).isSome = true ∧ w.frozen? ⟨(addrOf (ρ x)).block, (addrOf (ρ x)).off, none⟩ = false) ∧ ((w.cell? ⟨(addrOf (ρ x)).block, (addrOf (ρ x)).off + 1, none⟩).isSome = true ∧ w.frozen? ⟨(addrOf (ρ x)).block, (addrOf (ρ x)).off + 1, none⟩ = false) ∧ ((w.cell? ⟨(addrOf (ρ x)).block, (addrOf (ρ x)).off + 2, none⟩).isSome = true ∧ w.frozen? ⟨(addrOf (ρ x)).block, (addrOf (ρ x)).off + 2, none⟩ = false) ∧ ((w.cell? ⟨(addrOf (ρ x)).block, (addrOf (ρ x)).off + 3, none⟩).isSome = true ∧ w.frozen? ⟨(addrOf (ρ x)).block, (addrOf (ρ x)).off + 3, none⟩ = false) ∧ ((w.cell? ⟨(addrOf (ρ x)).block, (addrOf (ρ x)).off + 4, none⟩).isSome = true ∧ w.frozen? ⟨(addrOf (ρ x)).block, (addrOf (ρ x)).off + 4, none⟩ = false) ∧ ((w.cell? ⟨(addrOf (ρ x)).block, (addrOf (ρ x)).off + 5, none⟩).isSome = true ∧ w.frozen? ⟨(addrOf (ρ x)).block, (addrOf (ρ x)).off + 5, none⟩ = false) ∧ ((w.cell? ⟨(addrOf (ρ x)).block, (addrOf (ρ x)).off + 6, none⟩).isSome = true ∧ w.frozen? ⟨(addrOf (ρ x)).block, (addrOf (ρ x)).off + 6, none⟩ = false) ∧ ((w.cell? ⟨(addrOf (ρ x)).block, (addrOf (ρ x)).off + 7, none⟩).isSome = true ∧ w.frozen? ⟨(addrOf (ρ x)).block, (addrOf (ρ x)).off + 7, none⟩ = false) ∧ ((w.cell? ⟨(addrOf (ρ x)).block, (addrOf (ρ x)).off + 8, none⟩).isSome = true ∧ w.frozen? ⟨(addrOf (ρ x)).block, (addrOf (ρ x)).off + 8, none⟩ = false) ∧ ((w.cell? ⟨(addrOf (ρ x)).block, (addrOf (ρ x)).off + 9, none⟩).isSome = true ∧ w.frozen? ⟨(addrOf (ρ x)).block, (addrOf (ρ x)).off + 9, none⟩ = false) ∧ ((w.cell? ⟨(addrOf (ρ x)).block, (addrOf (ρ x)).off + 10, none⟩).isSome = true ∧ w.frozen? ⟨(addrOf (ρ x)).block, (addrOf (ρ x)).off + 10, none⟩ = false) ∧ ((w.cell? ⟨(addrOf (ρ x)).block, (addrOf (ρ x)).off + 11, none⟩).isSome = true ∧ w.frozen? ⟨(addrOf (ρ x)).block, (addrOf (ρ x)).off + 11, none⟩ = false) ∧ ((w.cell? ⟨(addrOf (ρ x)).block, (addrOf (ρ x)).off + 12, none⟩).isSome = true ∧ w.frozen? ⟨(addrOf (ρ x)).block, (addrOf (ρ x)).off + 12, none⟩ = false) ∧ ((w.cell? ⟨(addrOf (ρ x)).block, (addrOf (ρ x)).off + 13, none⟩).isSome = true ∧ w.frozen? ⟨(addrOf (ρ x)).block, (addrOf (ρ x)).off + 13, none⟩ = false)) :
    (execOp ρ ⟨dst, .store t x y, ty, pos, after, guard⟩).run P w = .ok .skip (w.setCells (addrOf (ρ x)).block (addrOf (ρ x)).off (aggOf (ρ y)).toList) := by
  obtain ⟨h0, h1, h2, h3, h4, h5, h6, h7, h8, h9, h10, h11, h12, h13⟩ := hc
  exact exec_store_n 14 hi ρ x y _ rfl w _ _ _ hx hy hn (by rw [← Array.all_toList]; exact hone) (fun j hj => by match j, hj with | 0, _ => exact h0 | 1, _ => exact h1 | 2, _ => exact h2 | 3, _ => exact h3 | 4, _ => exact h4 | 5, _ => exact h5 | 6, _ => exact h6 | 7, _ => exact h7 | 8, _ => exact h8 | 9, _ => exact h9 | 10, _ => exact h10 | 11, _ => exact h11 | 12, _ => exact h12 | 13, _ => exact h13 | k + 14, h => omega)
/-- What the walk is told of a load and of a store of a struct of 9 cells. -/
abbrev LoadLaw9 (P : Program) (t : TypeId) : Prop := ∀ (ρ : Operand → Value) (x : Operand) (dst : Option Tmp) (ty : TypeId) (pos : String) (after : Array Edge) (guard : Option (Nat × Bool)) (w : World), ρ x = .pointer (some ⟨(addrOf (ρ x)).block, (addrOf (ρ x)).off, none⟩) →
    ((w.cell? ⟨(addrOf (ρ x)).block, (addrOf (ρ x)).off, none⟩).isSome = true ∧ (w.cell? ⟨(addrOf (ρ x)).block, (addrOf (ρ x)).off + 1, none⟩).isSome = true ∧ (w.cell? ⟨(addrOf (ρ x)).block, (addrOf (ρ x)).off + 2, none⟩).isSome = true ∧ (w.cell? ⟨(addrOf (ρ x)).block, (addrOf (ρ x)).off + 3, none⟩).isSome = true ∧ (w.cell? ⟨(addrOf (ρ x)).block, (addrOf (ρ x)).off + 4, none⟩).isSome = true ∧ (w.cell? ⟨(addrOf (ρ x)).block, (addrOf (ρ x)).off + 5, none⟩).isSome = true ∧ (w.cell? ⟨(addrOf (ρ x)).block, (addrOf (ρ x)).off + 6, none⟩).isSome = true ∧ (w.cell? ⟨(addrOf (ρ x)).block, (addrOf (ρ x)).off + 7, none⟩).isSome = true ∧ (w.cell? ⟨(addrOf (ρ x)).block, (addrOf (ρ x)).off + 8, none⟩).isSome = true) → Sem.run P (execOp ρ ⟨dst, .load t x, ty, pos, after, guard⟩) w = .ok (.value (.agg #[(w.cell? ⟨(addrOf (ρ x)).block, (addrOf (ρ x)).off, none⟩).getD undef, (w.cell? ⟨(addrOf (ρ x)).block, (addrOf (ρ x)).off + 1, none⟩).getD undef, (w.cell? ⟨(addrOf (ρ x)).block, (addrOf (ρ x)).off + 2, none⟩).getD undef, (w.cell? ⟨(addrOf (ρ x)).block, (addrOf (ρ x)).off + 3, none⟩).getD undef, (w.cell? ⟨(addrOf (ρ x)).block, (addrOf (ρ x)).off + 4, none⟩).getD undef, (w.cell? ⟨(addrOf (ρ x)).block, (addrOf (ρ x)).off + 5, none⟩).getD undef, (w.cell? ⟨(addrOf (ρ x)).block, (addrOf (ρ x)).off + 6, none⟩).getD undef, (w.cell? ⟨(addrOf (ρ x)).block, (addrOf (ρ x)).off + 7, none⟩).getD undef, (w.cell? ⟨(addrOf (ρ x)).block, (addrOf (ρ x)).off + 8, none⟩).getD undef])) w
abbrev StoreLaw9 (P : Program) (t : TypeId) : Prop := ∀ (ρ : Operand → Value) (x y : Operand) (dst : Option Tmp) (ty : TypeId) (pos : String) (after : Array Edge) (guard : Option (Nat × Bool)) (w : World), ρ x = .pointer (some ⟨(addrOf (ρ x)).block, (addrOf (ρ x)).off, none⟩) → ρ y = .agg (aggOf (ρ y)) → (aggOf (ρ y)).size = 9 → (aggOf (ρ y)).toList.all (·.oneCell') = true →
    (((w.cell? ⟨(addrOf (ρ x)).block, (addrOf (ρ x)).off, none⟩).isSome = true ∧ w.frozen? ⟨(addrOf (ρ x)).block, (addrOf (ρ x)).off, none⟩ = false) ∧ ((w.cell? ⟨(addrOf (ρ x)).block, (addrOf (ρ x)).off + 1, none⟩).isSome = true ∧ w.frozen? ⟨(addrOf (ρ x)).block, (addrOf (ρ x)).off + 1, none⟩ = false) ∧ ((w.cell? ⟨(addrOf (ρ x)).block, (addrOf (ρ x)).off + 2, none⟩).isSome = true ∧ w.frozen? ⟨(addrOf (ρ x)).block, (addrOf (ρ x)).off + 2, none⟩ = false) ∧ ((w.cell? ⟨(addrOf (ρ x)).block, (addrOf (ρ x)).off + 3, none⟩).isSome = true ∧ w.frozen? ⟨(addrOf (ρ x)).block, (addrOf (ρ x)).off + 3, none⟩ = false) ∧ ((w.cell? ⟨(addrOf (ρ x)).block, (addrOf (ρ x)).off + 4, none⟩).isSome = true ∧ w.frozen? ⟨(addrOf (ρ x)).block, (addrOf (ρ x)).off + 4, none⟩ = false) ∧ ((w.cell? ⟨(addrOf (ρ x)).block, (addrOf (ρ x)).off + 5, none⟩).isSome = true ∧ w.frozen? ⟨(addrOf (ρ x)).block, (addrOf (ρ x)).off + 5, none⟩ = false) ∧ ((w.cell? ⟨(addrOf (ρ x)).block, (addrOf (ρ x)).off + 6, none⟩).isSome = true ∧ w.frozen? ⟨(addrOf (ρ x)).block, (addrOf (ρ x)).off + 6, none⟩ = false) ∧ ((w.cell? ⟨(addrOf (ρ x)).block, (addrOf (ρ x)).off + 7, none⟩).isSome = true ∧ w.frozen? ⟨(addrOf (ρ x)).block, (addrOf (ρ x)).off + 7, none⟩ = false) ∧ ((w.cell? ⟨(addrOf (ρ x)).block, (addrOf (ρ x)).off + 8, none⟩).isSome = true ∧ w.frozen? ⟨(addrOf (ρ x)).block, (addrOf (ρ x)).off + 8, none⟩ = false)) → Sem.run P (execOp ρ ⟨dst, .store t x y, ty, pos, after, guard⟩) w = .ok .skip (w.setCells (addrOf (ρ x)).block (addrOf (ρ x)).off (aggOf (ρ y)).toList)
/-- What the walk is told of a load and of a store of a struct of 14 cells. -/
abbrev LoadLaw14 (P : Program) (t : TypeId) : Prop := ∀ (ρ : Operand → Value) (x : Operand) (dst : Option Tmp) (ty : TypeId) (pos : String) (after : Array Edge) (guard : Option (Nat × Bool)) (w : World), ρ x = .pointer (some ⟨(addrOf (ρ x)).block, (addrOf (ρ x)).off, none⟩) →
    ((w.cell? ⟨(addrOf (ρ x)).block, (addrOf (ρ x)).off, none⟩).isSome = true ∧ (w.cell? ⟨(addrOf (ρ x)).block, (addrOf (ρ x)).off + 1, none⟩).isSome = true ∧ (w.cell? ⟨(addrOf (ρ x)).block, (addrOf (ρ x)).off + 2, none⟩).isSome = true ∧ (w.cell? ⟨(addrOf (ρ x)).block, (addrOf (ρ x)).off + 3, none⟩).isSome = true ∧ (w.cell? ⟨(addrOf (ρ x)).block, (addrOf (ρ x)).off + 4, none⟩).isSome = true ∧ (w.cell? ⟨(addrOf (ρ x)).block, (addrOf (ρ x)).off + 5, none⟩).isSome = true ∧ (w.cell? ⟨(addrOf (ρ x)).block, (addrOf (ρ x)).off + 6, none⟩).isSome = true ∧ (w.cell? ⟨(addrOf (ρ x)).block, (addrOf (ρ x)).off + 7, none⟩).isSome = true ∧ (w.cell? ⟨(addrOf (ρ x)).block, (addrOf (ρ x)).off + 8, none⟩).isSome = true ∧ (w.cell? ⟨(addrOf (ρ x)).block, (addrOf (ρ x)).off + 9, none⟩).isSome = true ∧ (w.cell? ⟨(addrOf (ρ x)).block, (addrOf (ρ x)).off + 10, none⟩).isSome = true ∧ (w.cell? ⟨(addrOf (ρ x)).block, (addrOf (ρ x)).off + 11, none⟩).isSome = true ∧ (w.cell? ⟨(addrOf (ρ x)).block, (addrOf (ρ x)).off + 12, none⟩).isSome = true ∧ (w.cell? ⟨(addrOf (ρ x)).block, (addrOf (ρ x)).off + 13, none⟩).isSome = true) → Sem.run P (execOp ρ ⟨dst, .load t x, ty, pos, after, guard⟩) w = .ok (.value (.agg #[(w.cell? ⟨(addrOf (ρ x)).block, (addrOf (ρ x)).off, none⟩).getD undef, (w.cell? ⟨(addrOf (ρ x)).block, (addrOf (ρ x)).off + 1, none⟩).getD undef, (w.cell? ⟨(addrOf (ρ x)).block, (addrOf (ρ x)).off + 2, none⟩).getD undef, (w.cell? ⟨(addrOf (ρ x)).block, (addrOf (ρ x)).off + 3, none⟩).getD undef, (w.cell? ⟨(addrOf (ρ x)).block, (addrOf (ρ x)).off + 4, none⟩).getD undef, (w.cell? ⟨(addrOf (ρ x)).block, (addrOf (ρ x)).off + 5, none⟩).getD undef, (w.cell? ⟨(addrOf (ρ x)).block, (addrOf (ρ x)).off + 6, none⟩).getD undef, (w.cell? ⟨(addrOf (ρ x)).block, (addrOf (ρ x)).off + 7, none⟩).getD undef, (w.cell? ⟨(addrOf (ρ x)).block, (addrOf (ρ x)).off + 8, none⟩).getD undef, (w.cell? ⟨(addrOf (ρ x)).block, (addrOf (ρ x)).off + 9, none⟩).getD undef, (w.cell? ⟨(addrOf (ρ x)).block, (addrOf (ρ x)).off + 10, none⟩).getD undef, (w.cell? ⟨(addrOf (ρ x)).block, (addrOf (ρ x)).off + 11, none⟩).getD undef, (w.cell? ⟨(addrOf (ρ x)).block, (addrOf (ρ x)).off + 12, none⟩).getD undef, (w.cell? ⟨(addrOf (ρ x)).block, (addrOf (ρ x)).off + 13, none⟩).getD undef])) w
abbrev StoreLaw14 (P : Program) (t : TypeId) : Prop := ∀ (ρ : Operand → Value) (x y : Operand) (dst : Option Tmp) (ty : TypeId) (pos : String) (after : Array Edge) (guard : Option (Nat × Bool)) (w : World), ρ x = .pointer (some ⟨(addrOf (ρ x)).block, (addrOf (ρ x)).off, none⟩) → ρ y = .agg (aggOf (ρ y)) → (aggOf (ρ y)).size = 14 → (aggOf (ρ y)).toList.all (·.oneCell') = true →
    (((w.cell? ⟨(addrOf (ρ x)).block, (addrOf (ρ x)).off, none⟩).isSome = true ∧ w.frozen? ⟨(addrOf (ρ x)).block, (addrOf (ρ x)).off, none⟩ = false) ∧ ((w.cell? ⟨(addrOf (ρ x)).block, (addrOf (ρ x)).off + 1, none⟩).isSome = true ∧ w.frozen? ⟨(addrOf (ρ x)).block, (addrOf (ρ x)).off + 1, none⟩ = false) ∧ ((w.cell? ⟨(addrOf (ρ x)).block, (addrOf (ρ x)).off + 2, none⟩).isSome = true ∧ w.frozen? ⟨(addrOf (ρ x)).block, (addrOf (ρ x)).off + 2, none⟩ = false) ∧ ((w.cell? ⟨(addrOf (ρ x)).block, (addrOf (ρ x)).off + 3, none⟩).isSome = true ∧ w.frozen? ⟨(addrOf (ρ x)).block, (addrOf (ρ x)).off + 3, none⟩ = false) ∧ ((w.cell? ⟨(addrOf (ρ x)).block, (addrOf (ρ x)).off + 4, none⟩).isSome = true ∧ w.frozen? ⟨(addrOf (ρ x)).block, (addrOf (ρ x)).off + 4, none⟩ = false) ∧ ((w.cell? ⟨(addrOf (ρ x)).block, (addrOf (ρ x)).off + 5, none⟩).isSome = true ∧ w.frozen? ⟨(addrOf (ρ x)).block, (addrOf (ρ x)).off + 5, none⟩ = false) ∧ ((w.cell? ⟨(addrOf (ρ x)).block, (addrOf (ρ x)).off + 6, none⟩).isSome = true ∧ w.frozen? ⟨(addrOf (ρ x)).block, (addrOf (ρ x)).off + 6, none⟩ = false) ∧ ((w.cell? ⟨(addrOf (ρ x)).block, (addrOf (ρ x)).off + 7, none⟩).isSome = true ∧ w.frozen? ⟨(addrOf (ρ x)).block, (addrOf (ρ x)).off + 7, none⟩ = false) ∧ ((w.cell? ⟨(addrOf (ρ x)).block, (addrOf (ρ x)).off + 8, none⟩).isSome = true ∧ w.frozen? ⟨(addrOf (ρ x)).block, (addrOf (ρ x)).off + 8, none⟩ = false) ∧ ((w.cell? ⟨(addrOf (ρ x)).block, (addrOf (ρ x)).off + 9, none⟩).isSome = true ∧ w.frozen? ⟨(addrOf (ρ x)).block, (addrOf (ρ x)).off + 9, none⟩ = false) ∧ ((w.cell? ⟨(addrOf (ρ x)).block, (addrOf (ρ x)).off + 10, none⟩).isSome = true ∧ w.frozen? ⟨(addrOf (ρ x)).block, (addrOf (ρ x)).off + 10, none⟩ = false) ∧ ((w.cell? ⟨(addrOf (ρ x)).block, (addrOf (ρ x)).off + 11, none⟩).isSome = true ∧ w.frozen? ⟨(addrOf (ρ x)).block, (addrOf (ρ x)).off + 11, none⟩ = false) ∧ ((w.cell? ⟨(addrOf (ρ x)).block, (addrOf (ρ x)).off + 12, none⟩).isSome = true ∧ w.frozen? ⟨(addrOf (ρ x)).block, (addrOf (ρ x)).off + 12, none⟩ = false) ∧ ((w.cell? ⟨(addrOf (ρ x)).block, (addrOf (ρ x)).off + 13, none⟩).isSome = true ∧ w.frozen? ⟨(addrOf (ρ x)).block, (addrOf (ρ x)).off + 13, none⟩ = false)) → Sem.run P (execOp ρ ⟨dst, .store t x y, ty, pos, after, guard⟩) w = .ok .skip (w.setCells (addrOf (ρ x)).block (addrOf (ρ x)).off (aggOf (ρ y)).toList)
end Go.Proofs.YtkdopjkdokgipaaGreatDoor
namespace Go.Proofs.YtkdopjkdokgipaaGreatDoor
open Go.RowKit
theorem setCells_drew (b : Nat) : ∀ (vs : List Value) (o : Nat) (w : World), w.drew.setCells b o vs = (w.setCells b o vs).drew
  | [], _, _ => rfl
  | v :: r, o, w => by rw [World.setCells, World.setCells, World.setCell_drew, setCells_drew b r]
attribute [go_sem] setCells_drew
theorem ret_cell_tmp {P : Program} {fn : Func} {p u : Tmp} {ty : TypeId} {d : TypeDesc} (h : fn.results = #[.cell p ty, .tmp u]) (tmps : Array Value) (w : World) (g : Nat) (cs : List Value) (hp : tmps.getD p undef = .pointer (some ⟨g, 0, none⟩)) (hr : w.rangeAt g 0 cs)
    (hu : P.underlying ty = some d) (hd : d.isRow = true) (hi : (P.info? ty).map (·.size) = some cs.length) : (results fn tmps).run P w = .ok (.tuple #[.agg cs.toArray, tmps.getD u undef]) w := by
  rw [results_cell_tmp h, hp]
  simp [asAddr, run_loadVar_mid w g 0 ty cs d hr hu hd hi]
theorem ret_cell_one {P : Program} {fn : Func} {p : Tmp} {ty : TypeId} {d : TypeDesc} (h : fn.results = #[.cell p ty]) (tmps : Array Value) (w : World) (g : Nat) (cs : List Value) (hp : tmps.getD p undef = .pointer (some ⟨g, 0, none⟩)) (hr : w.rangeAt g 0 cs)
    (hu : P.underlying ty = some d) (hd : d.isRow = true) (hi : (P.info? ty).map (·.size) = some cs.length) : (results fn tmps).run P w = .ok (.agg cs.toArray) w := by
  have hp' : tmps[p]?.getD undef = .pointer (some ⟨g, 0, none⟩) := by simpa using hp
  simp [results, h, hp', asAddr, run_loadVar_mid w g 0 ty cs d hr hu hd hi]
theorem range9 {w : World} {g : Nat} {c0 c1 c2 c3 c4 c5 c6 c7 c8 : Value} (h : w.cell? ⟨g, 0, none⟩ = some c0 ∧ w.cell? ⟨g, 1, none⟩ = some c1 ∧ w.cell? ⟨g, 2, none⟩ = some c2 ∧ w.cell? ⟨g, 3, none⟩ = some c3 ∧ w.cell? ⟨g, 4, none⟩ = some c4 ∧ w.cell? ⟨g, 5, none⟩ = some c5 ∧ w.cell? ⟨g, 6, none⟩ = some c6 ∧ w.cell? ⟨g, 7, none⟩ = some c7 ∧ w.cell? ⟨g, 8, none⟩ = some c8) : w.rangeAt g 0 [c0, c1, c2, c3, c4, c5, c6, c7, c8] := by
  obtain ⟨h0, h1, h2, h3, h4, h5, h6, h7, h8⟩ := h
  intro j v hv
  rw [Nat.zero_add]
  match j, hv with | 0, hv => (simp at hv; subst hv; exact h0) | 1, hv => (simp at hv; subst hv; exact h1) | 2, hv => (simp at hv; subst hv; exact h2) | 3, hv => (simp at hv; subst hv; exact h3) | 4, hv => (simp at hv; subst hv; exact h4) | 5, hv => (simp at hv; subst hv; exact h5) | 6, hv => (simp at hv; subst hv; exact h6) | 7, hv => (simp at hv; subst hv; exact h7) | 8, hv => (simp at hv; subst hv; exact h8) | k + 9, hv => simp at hv
theorem range14 {w : World} {g : Nat} {c0 c1 c2 c3 c4 c5 c6 c7 c8 c9 c10 c11 c12 c13 : Value} (h : w.cell? ⟨g, 0, none⟩ = some c0 ∧ w.cell? ⟨g, 1, none⟩ = some c1 ∧ w.cell? ⟨g, 2, none⟩ = some c2 ∧ w.cell? ⟨g, 3, none⟩ = some c3 ∧ w.cell? ⟨g, 4, none⟩ = some c4 ∧ w.cell? ⟨g, 5, none⟩ = some c5 ∧ w.cell? ⟨g, 6, none⟩ = some c6 ∧ w.cell? ⟨g, 7, none⟩ = some c7 ∧ w.cell? ⟨g, 8, none⟩ = some c8 ∧ w.cell? ⟨g, 9, none⟩ = some c9 ∧ w.cell? ⟨g, 10, none⟩ = some c10 ∧ w.cell? ⟨g, 11, none⟩ = some c11 ∧ w.cell? ⟨g, 12, none⟩ = some c12 ∧ w.cell? ⟨g, 13, none⟩ = some c13) : w.rangeAt g 0 [c0, c1, c2, c3, c4, c5, c6, c7, c8, c9, c10, c11, c12, c13] := by
  obtain ⟨h0, h1, h2, h3, h4, h5, h6, h7, h8, h9, h10, h11, h12, h13⟩ := h
  intro j v hv
  rw [Nat.zero_add]
  match j, hv with | 0, hv => (simp at hv; subst hv; exact h0) | 1, hv => (simp at hv; subst hv; exact h1) | 2, hv => (simp at hv; subst hv; exact h2) | 3, hv => (simp at hv; subst hv; exact h3) | 4, hv => (simp at hv; subst hv; exact h4) | 5, hv => (simp at hv; subst hv; exact h5) | 6, hv => (simp at hv; subst hv; exact h6) | 7, hv => (simp at hv; subst hv; exact h7) | 8, hv => (simp at hv; subst hv; exact h8) | 9, hv => (simp at hv; subst hv; exact h9) | 10, hv => (simp at hv; subst hv; exact h10) | 11, hv => (simp at hv; subst hv; exact h11) | 12, hv => (simp at hv; subst hv; exact h12) | 13, hv => (simp at hv; subst hv; exact h13) | k + 14, hv => simp at hv
end Go.Proofs.YtkdopjkdokgipaaGreatDoor
namespace Go.Proofs.YtkdopjkdokgipaaGreatDoor
set_option linter.unusedVariables false
set_option linter.unusedSimpArgs false
open Go.RowKit
theorem size_walk : (Tryz.prog.info? 96).map (·.size) = some 14 := by kernel_rfl
theorem load_walk : LoadLaw14 Tryz.prog 96 := exec_load14 (P := Tryz.prog) (t := 96) Tryz.underlying96 rfl size_walk
theorem store_walk : StoreLaw14 Tryz.prog 96 := exec_store14 (P := Tryz.prog) (t := 96) size_walk
theorem size_axes : (Tryz.prog.info? 94).map (·.size) = some 9 := by kernel_rfl
theorem load_axes : LoadLaw9 Tryz.prog 94 := exec_load9 (P := Tryz.prog) (t := 94) Tryz.underlying94 rfl size_axes
theorem rk_oneCell_int (k : IntKind) (n : Int) : (Value.int k n).oneCell' = true := rfl
theorem rk_oneCell_slice (a : Option Addr) (n c : Nat) : (Value.slice a n c).oneCell' = true := rfl
attribute [go_sem ↓] load_walk store_walk load_axes
attribute [go_sem] setCells_alloc_last setCells_alloc_other rk_oneCell_int rk_oneCell_slice List.all_toArray List.all_cons List.all_nil
end Go.Proofs.YtkdopjkdokgipaaGreatDoor
namespace Go.Proofs.YtkdopjkdokgipaaGreatDoor
open Go.RowKit
set_option linter.unusedVariables false
set_option linter.unusedSimpArgs false
def ThS (q : Nat) (v : VO) (r : RY) (w' : World) : Prop := w'.cell? ⟨q, 0, none⟩ = some (.int .i64 v.nx) ∧ w'.cell? ⟨q, 1, none⟩ = some (.int .i64 v.ny) ∧ w'.cell? ⟨q, 2, none⟩ = some (.int .i64 v.nz) ∧ w'.cell? ⟨q, 3, none⟩ = some (.int .i64 v.size) ∧ w'.cell? ⟨q + 1, 0, none⟩ = some (.int .i64 r.x) ∧ w'.cell? ⟨q + 1, 1, none⟩ = some (.int .i64 r.y) ∧ w'.cell? ⟨q + 1, 2, none⟩ = some (.int .i64 r.z) ∧ w'.cell? ⟨q + 1, 3, none⟩ = some (.int .i64 r.dx) ∧ w'.cell? ⟨q + 1, 4, none⟩ = some (.int .i64 r.dy) ∧ w'.cell? ⟨q + 1, 5, none⟩ = some (.int .i64 r.dz)
theorem ths_of {q : Nat} {v : VO} {r : RY} {W : World} (h0 : W.heap[q]? = some (.cells #[.int .i64 v.nx, .int .i64 v.ny, .int .i64 v.nz, .int .i64 v.size] 23)) (h1 : W.heap[q + 1]? = some (.cells #[.int .i64 r.x, .int .i64 r.y, .int .i64 r.z, .int .i64 r.dx, .int .i64 r.dy, .int .i64 r.dz] 26)) : ThS q v r W :=
  ⟨cell_of_row _ _ _ _ _ _ h0, cell_of_row _ _ _ _ _ _ h0, cell_of_row _ _ _ _ _ _ h0, cell_of_row _ _ _ _ _ _ h0, cell_of_row _ _ _ _ _ _ h1, cell_of_row _ _ _ _ _ _ h1, cell_of_row _ _ _ _ _ _ h1, cell_of_row _ _ _ _ _ _ h1, cell_of_row _ _ _ _ _ _ h1, cell_of_row _ _ _ _ _ _ h1⟩
theorem row_there {W : World} {b j : Nat} {cur : Array Value} {t : TypeId} (h : W.heap[b]? = some (.cells cur t)) (hj : j < cur.size) : (W.cell? ⟨b, 0 + j, none⟩).isSome = true ∧ W.frozen? ⟨b, 0 + j, none⟩ = false := by
  rw [Nat.zero_add]
  refine ⟨?_, frozen_of_row _ _ _ _ _ h⟩
  rw [cell_of_row W b j cur _ _ h, Array.getElem?_eq_getElem hj]
  rfl
theorem rk_setCells {B : Nat} {a : World} {b : Nat} (hB : B ≤ b) : ∀ (vs : List Value) (o : Nat) (w : World), Below B a w → Below B a (w.setCells b o vs)
  | [], _, _, h => h
  | v :: r, o, w, h => rk_setCells hB r (o + 1) _ (h.setCell (p := ⟨b, o, none⟩) hB v)
theorem rk_three (W : World) (o1 o2 o3 : Obj) : Below W.heap.size W (((W.alloc o1).alloc o2).alloc o3) ∧ (((W.alloc o1).alloc o2).alloc o3).heap[W.heap.size]? = some o1 ∧ (((W.alloc o1).alloc o2).alloc o3).heap[W.heap.size + 1]? = some o2 ∧ (((W.alloc o1).alloc o2).alloc o3).heap[W.heap.size + 1 + 1]? = some o3 := by
  obtain ⟨h1, h2, h3⟩ := rk_two W o1 o2
  have a3 := rk_below ((W.alloc o1).alloc o2) o3
  have z2 : ((W.alloc o1).alloc o2).heap.size = W.heap.size + 1 + 1 := by simp
  refine ⟨h1.trans (a3.mono h1.size), (a3.block _ (by omega)).trans h2, (a3.block _ (by omega)).trans h3, ?_⟩
  have := heap_alloc_new ((W.alloc o1).alloc o2) o3
  rwa [z2] at this
set_option maxRecDepth 100000 in
set_option maxHeartbeats 2000000 in
theorem through_any (v : VO) (r : RY) (w : World) (hr : r.Ok) : Calls Tryz.prog 44 #[v.val, r.val] w fun e w' => e = .returned (wkVal v r) ∧ Below w.heap.size w w' := by
  have HTK := Lib.hid (fun (W : World) => ticks_any r W hr)
  unfold wkVal
  unfold RY.val at HTK
  unfold VO.val RY.val
  clear hr
  generalize tkF r = T at *
  go_enter Tryz.func44, Tryz.ntmps44
  go_upto_region 1 with (fail)
  obtain ⟨hVb, e1, e2, e3⟩ := rk_three w (.cells #[.int .i64 v.nx, .int .i64 v.ny, .int .i64 v.nz, .int .i64 v.size] 23) (.cells #[.int .i64 r.x, .int .i64 r.y, .int .i64 r.z, .int .i64 r.dx, .int .i64 r.dy, .int .i64 r.dz] 26) (.cells #[.int .i64 0, .int .i64 0, .int .i64 0, .int .i64 0, .int .i64 0, .int .i64 0, .int .i64 0, .int .i64 0, .int .i64 0, .int .i64 0, .int .i64 0, .int .i64 0, .int .i64 0, .int .i64 0] 96)
  have HB := Lib.hid hVb
  have HR0 := Lib.hid e1
  have HR1 := Lib.hid e2
  have HR2 := Lib.hid e3
  clear hVb e1 e2 e3
  generalize World.alloc (World.alloc (World.alloc w _) _) _ = V at *
  refine wp_region_any (by kernel_rfl) ?_
  change wpAny _ _ _ _ _ _ _ (World.drew V)
  have HB := Lib.hid (show Below w.heap.size w V.drew from HB.out.drew)
  have HR0 := Lib.hid (show V.drew.heap[w.heap.size]? = _ from HR0.out)
  have HR1 := Lib.hid (show V.drew.heap[w.heap.size + 1]? = _ from HR1.out)
  have HR2 := Lib.hid (show V.drew.heap[w.heap.size + 1 + 1]? = _ from HR2.out)
  generalize World.drew V = Vd at *
  refine any_of_tail 25 25 (ThS w.heap.size v r) (by kernel_rfl) (ths_of HR0.out HR1.out) (fun hS => ?_)
  refine headH_take (i := 0) (v := ?_) rfl (by kernel_rfl) (fun _ _ _ h => h) (Or.inl ⟨by rfl, ?_⟩) (by assumption) ?_; rotate_left; (· intro w' hSw; (try dsimp only at hSw); (obtain ⟨a0, a1, a2, a3, b0, b1, b2, b3, b4, b5⟩ := hSw); (try simp only [hng]); go_simp; (try with_reducible rfl)); (try simp only [hng]); (try dsimp only [Act.put]); (try simp only [hns])
  refine headH_take (i := 1) (v := ?_) rfl (by kernel_rfl) (fun _ _ _ h => h) (Or.inl ⟨by rfl, ?_⟩) (by assumption) ?_; rotate_left; (· intro w' hSw; (try dsimp only at hSw); (obtain ⟨a0, a1, a2, a3, b0, b1, b2, b3, b4, b5⟩ := hSw); (try simp only [hng]); go_simp; (try with_reducible rfl)); (try simp only [hng]); (try dsimp only [Act.put]); (try simp only [hns])
  refine headH_take (i := 2) (v := ?_) rfl (by kernel_rfl) (fun _ _ _ h => h) (Or.inl ⟨by rfl, ?_⟩) (by assumption) ?_; rotate_left; (· intro w' hSw; (try dsimp only at hSw); (obtain ⟨a0, a1, a2, a3, b0, b1, b2, b3, b4, b5⟩ := hSw); (try simp only [hng]); go_simp; (try with_reducible rfl)); (try simp only [hng]); (try dsimp only [Act.put]); (try simp only [hns])
  refine headH_take (i := 3) (v := ?_) rfl (by kernel_rfl) (fun _ _ _ h => h) (Or.inl ⟨by rfl, ?_⟩) (by assumption) ?_; rotate_left; (· intro w' hSw; (try dsimp only at hSw); (obtain ⟨a0, a1, a2, a3, b0, b1, b2, b3, b4, b5⟩ := hSw); (try simp only [hng]); go_simp; (try with_reducible rfl)); (try simp only [hng]); (try dsimp only [Act.put]); (try simp only [hns])
  refine headH_take (i := 4) (v := ?_) rfl (by kernel_rfl) (fun _ _ _ h => h) (Or.inl ⟨by rfl, ?_⟩) (by assumption) ?_; rotate_left; (· intro w' hSw; (try dsimp only at hSw); (obtain ⟨a0, a1, a2, a3, b0, b1, b2, b3, b4, b5⟩ := hSw); (try simp only [hng]); go_simp; (try with_reducible rfl)); (try simp only [hng]); (try dsimp only [Act.put]); (try simp only [hns])
  refine headH_take (i := 5) (v := ?_) rfl (by kernel_rfl) (fun _ _ _ h => h) (Or.inl ⟨by rfl, ?_⟩) (by assumption) ?_; rotate_left; (· intro w' hSw; (try dsimp only at hSw); (obtain ⟨a0, a1, a2, a3, b0, b1, b2, b3, b4, b5⟩ := hSw); (try simp only [hng]); go_simp; (try with_reducible rfl)); (try simp only [hng]); (try dsimp only [Act.put]); (try simp only [hns])
  refine headH_take (i := 6) (v := ?_) rfl (by kernel_rfl) (fun _ _ _ h => h) (Or.inl ⟨by rfl, ?_⟩) (by assumption) ?_; rotate_left; (· intro w' hSw; (try dsimp only at hSw); (obtain ⟨a0, a1, a2, a3, b0, b1, b2, b3, b4, b5⟩ := hSw); (try simp only [hng]); go_simp; (try with_reducible rfl)); (try simp only [hng]); (try dsimp only [Act.put]); (try simp only [hns])
  refine headH_take (i := 7) (v := ?_) rfl (by kernel_rfl) (fun _ _ _ h => h) (Or.inl ⟨by rfl, ?_⟩) (by assumption) ?_; rotate_left; (· intro w' hSw; (try dsimp only at hSw); (obtain ⟨a0, a1, a2, a3, b0, b1, b2, b3, b4, b5⟩ := hSw); (try simp only [hng]); go_simp; (try with_reducible rfl)); (try simp only [hng]); (try dsimp only [Act.put]); (try simp only [hns])
  refine headH_take (i := 8) (v := ?_) rfl (by kernel_rfl) (fun _ _ _ h => h) (Or.inl ⟨by rfl, ?_⟩) (by assumption) ?_; rotate_left; (· intro w' hSw; (try dsimp only at hSw); (obtain ⟨a0, a1, a2, a3, b0, b1, b2, b3, b4, b5⟩ := hSw); (try simp only [hng]); go_simp; (try with_reducible rfl)); (try simp only [hng]); (try dsimp only [Act.put]); (try simp only [hns])
  refine headH_take (i := 9) (v := ?_) rfl (by kernel_rfl) (fun _ _ _ h => h) (Or.inl ⟨by rfl, ?_⟩) (by assumption) ?_; rotate_left; (· intro w' hSw; (try dsimp only at hSw); (obtain ⟨a0, a1, a2, a3, b0, b1, b2, b3, b4, b5⟩ := hSw); (try simp only [hng]); go_simp; (try with_reducible rfl)); (try simp only [hng]); (try dsimp only [Act.put]); (try simp only [hns])
  refine headH_take (i := 10) (v := ?_) rfl (by kernel_rfl) (fun _ _ _ h => h) (Or.inl ⟨by rfl, ?_⟩) (by assumption) ?_; rotate_left; (· intro w' hSw; (try dsimp only at hSw); (obtain ⟨a0, a1, a2, a3, b0, b1, b2, b3, b4, b5⟩ := hSw); (try simp only [hng]); go_simp; (try with_reducible rfl)); (try simp only [hng]); (try dsimp only [Act.put]); (try simp only [hns])
  refine headH_take (i := 11) (v := ?_) rfl (by kernel_rfl) (fun _ _ _ h => h) (Or.inl ⟨by rfl, ?_⟩) (by assumption) ?_; rotate_left; (· intro w' hSw; (try dsimp only at hSw); (obtain ⟨a0, a1, a2, a3, b0, b1, b2, b3, b4, b5⟩ := hSw); (try simp only [hng]); go_simp; (try with_reducible rfl)); (try simp only [hng]); (try dsimp only [Act.put]); (try simp only [hns])
  refine headH_take (i := 12) (v := ?_) rfl (by kernel_rfl) (fun _ _ _ h => h) (Or.inl ⟨by rfl, ?_⟩) (by assumption) ?_; rotate_left; (· intro w' hSw; (try dsimp only at hSw); (obtain ⟨a0, a1, a2, a3, b0, b1, b2, b3, b4, b5⟩ := hSw); (try simp only [hng]); go_simp; (try with_reducible rfl)); (try simp only [hng]); (try dsimp only [Act.put]); (try simp only [hns])
  refine headH_take (i := 13) (v := ?_) rfl (by kernel_rfl) (fun _ _ _ h => h) (Or.inl ⟨by rfl, ?_⟩) (by assumption) ?_; rotate_left; (· intro w' hSw; (try dsimp only at hSw); (obtain ⟨a0, a1, a2, a3, b0, b1, b2, b3, b4, b5⟩ := hSw); (try simp only [hng]); go_simp; (try with_reducible rfl)); (try simp only [hng]); (try dsimp only [Act.put]); (try simp only [hns])
  refine headH_take (i := 14) (v := ?_) rfl (by kernel_rfl) (fun _ _ _ h => h) (Or.inl ⟨by rfl, ?_⟩) (by assumption) ?_; rotate_left; (· intro w' hSw; (try dsimp only at hSw); (obtain ⟨a0, a1, a2, a3, b0, b1, b2, b3, b4, b5⟩ := hSw); (try simp only [hng]); go_simp; (try with_reducible rfl)); (try simp only [hng]); (try dsimp only [Act.put]); (try simp only [hns])
  refine headH_take (i := 15) (v := ?_) rfl (by kernel_rfl) (fun _ _ _ h => h) (Or.inl ⟨by rfl, ?_⟩) (by assumption) ?_; rotate_left; (· intro w' hSw; (try dsimp only at hSw); (obtain ⟨a0, a1, a2, a3, b0, b1, b2, b3, b4, b5⟩ := hSw); (try simp only [hng]); go_simp; (try with_reducible rfl)); (try simp only [hng]); (try dsimp only [Act.put]); (try simp only [hns])
  refine headH_take (i := 16) (v := ?_) rfl (by kernel_rfl) (fun _ _ _ h => h) (Or.inl ⟨by rfl, ?_⟩) (by assumption) ?_; rotate_left; (· intro w' hSw; (try dsimp only at hSw); (obtain ⟨a0, a1, a2, a3, b0, b1, b2, b3, b4, b5⟩ := hSw); (try simp only [hng]); go_simp; (try with_reducible rfl)); (try simp only [hng]); (try dsimp only [Act.put]); (try simp only [hns])
  refine headH_take (i := 17) (v := ?_) rfl (by kernel_rfl) (fun _ _ _ h => h) (Or.inl ⟨by rfl, ?_⟩) (by assumption) ?_; rotate_left; (· intro w' hSw; (try dsimp only at hSw); (obtain ⟨a0, a1, a2, a3, b0, b1, b2, b3, b4, b5⟩ := hSw); (try simp only [hng]); go_simp; (try with_reducible rfl)); (try simp only [hng]); (try dsimp only [Act.put]); (try simp only [hns])
  refine headH_take (i := 18) (v := ?_) rfl (by kernel_rfl) (fun _ _ _ h => h) (Or.inl ⟨by rfl, ?_⟩) (by assumption) ?_; rotate_left; (· intro w' hSw; (try dsimp only at hSw); (obtain ⟨a0, a1, a2, a3, b0, b1, b2, b3, b4, b5⟩ := hSw); (try simp only [hng]); go_simp; (try with_reducible rfl)); (try simp only [hng]); (try dsimp only [Act.put]); (try simp only [hns])
  refine headH_take (i := 19) (v := ?_) rfl (by kernel_rfl) (fun _ _ _ h => h) (Or.inl ⟨by rfl, ?_⟩) (by assumption) ?_; rotate_left; (· intro w' hSw; (try dsimp only at hSw); (obtain ⟨a0, a1, a2, a3, b0, b1, b2, b3, b4, b5⟩ := hSw); (try simp only [hng]); go_simp; (try with_reducible rfl)); (try simp only [hng]); (try dsimp only [Act.put]); (try simp only [hns])
  refine headH_take (i := 20) (v := ?_) rfl (by kernel_rfl) (fun _ _ _ h => h) (Or.inl ⟨by rfl, ?_⟩) (by assumption) ?_; rotate_left; (· intro w' hSw; (try dsimp only at hSw); (obtain ⟨a0, a1, a2, a3, b0, b1, b2, b3, b4, b5⟩ := hSw); (try simp only [hng]); go_simp; (try with_reducible rfl)); (try simp only [hng]); (try dsimp only [Act.put]); (try simp only [hns])
  refine headH_take (i := 21) (v := ?_) rfl (by kernel_rfl) (fun _ _ _ h => h) (Or.inl ⟨by rfl, ?_⟩) (by assumption) ?_; rotate_left; (· intro w' hSw; (try dsimp only at hSw); (obtain ⟨a0, a1, a2, a3, b0, b1, b2, b3, b4, b5⟩ := hSw); (try simp only [hng]); go_simp; (try with_reducible rfl)); (try simp only [hng]); (try dsimp only [Act.put]); (try simp only [hns])
  refine headH_take (i := 22) (v := ?_) rfl (by kernel_rfl) (fun _ _ _ h => h) (Or.inl ⟨by rfl, ?_⟩) (by assumption) ?_; rotate_left; (· intro w' hSw; (try dsimp only at hSw); (obtain ⟨a0, a1, a2, a3, b0, b1, b2, b3, b4, b5⟩ := hSw); (try simp only [hng]); go_simp; (try with_reducible rfl)); (try simp only [hng]); (try dsimp only [Act.put]); (try simp only [hns])
  refine headH_take (i := 23) (v := ?_) rfl (by kernel_rfl) (fun _ _ _ h => h) (Or.inl ⟨by rfl, ?_⟩) (by assumption) ?_; rotate_left; (· intro w' hSw; (try dsimp only at hSw); (obtain ⟨a0, a1, a2, a3, b0, b1, b2, b3, b4, b5⟩ := hSw); (try simp only [hng]); go_simp; (try with_reducible rfl)); (try simp only [hng]); (try dsimp only [Act.put]); (try simp only [hns])
  refine headH_all (rs := [24]) (by kernel_rfl) (by simp) (by kernel_rfl) ?_; intro i0 hi0; simp only [List.mem_cons, List.not_mem_nil, or_false] at hi0; subst hi0
  refine headH_op rfl (fun K hK => ?_)
  (try simp only [hng])
  go_simp
  refine (HTK.out _).mono ?_
  rintro e W2 ⟨rfl, hb⟩
  dsimp only
  have HS0 := Lib.hid (bs HR0.out hb)
  have HS1 := Lib.hid (bs HR1.out hb)
  have HS2 := Lib.hid (bs HR2.out hb)
  have HBB := Lib.hid (HB.out.trans (hb.mono HB.out.size))
  refine hK.out _ _ (ths_of HS0.out HS1.out) (fun hS => ?_)
  clear hK K hb HR0 HR1 HR2
  (try simp only [hng]); (try dsimp only [Act.put]); (try simp only [hns])
  change tailL _ _ _ _ _ _ _ _
  refine ⟨by kernel_rfl, ?_⟩
  simp only [List.drop_succ_cons, List.drop_zero]
  have z0 : W2.cell? ⟨w.heap.size + 1 + 1, 0, none⟩ = some (.int .i64 0) := cell_of_row _ _ _ _ _ _ HS2.out
  have f0 : W2.frozen? ⟨w.heap.size + 1 + 1, 0, none⟩ = false := frozen_of_row _ _ _ _ _ HS2.out
  have z1 : W2.cell? ⟨w.heap.size + 1 + 1, 1, none⟩ = some (.int .i64 0) := cell_of_row _ _ _ _ _ _ HS2.out
  have f1 : W2.frozen? ⟨w.heap.size + 1 + 1, 1, none⟩ = false := frozen_of_row _ _ _ _ _ HS2.out
  have z2 : W2.cell? ⟨w.heap.size + 1 + 1, 2, none⟩ = some (.int .i64 0) := cell_of_row _ _ _ _ _ _ HS2.out
  have f2 : W2.frozen? ⟨w.heap.size + 1 + 1, 2, none⟩ = false := frozen_of_row _ _ _ _ _ HS2.out
  have z3 : W2.cell? ⟨w.heap.size + 1 + 1, 3, none⟩ = some (.int .i64 0) := cell_of_row _ _ _ _ _ _ HS2.out
  have f3 : W2.frozen? ⟨w.heap.size + 1 + 1, 3, none⟩ = false := frozen_of_row _ _ _ _ _ HS2.out
  have z4 : W2.cell? ⟨w.heap.size + 1 + 1, 4, none⟩ = some (.int .i64 0) := cell_of_row _ _ _ _ _ _ HS2.out
  have f4 : W2.frozen? ⟨w.heap.size + 1 + 1, 4, none⟩ = false := frozen_of_row _ _ _ _ _ HS2.out
  have z5 : W2.cell? ⟨w.heap.size + 1 + 1, 5, none⟩ = some (.int .i64 0) := cell_of_row _ _ _ _ _ _ HS2.out
  have f5 : W2.frozen? ⟨w.heap.size + 1 + 1, 5, none⟩ = false := frozen_of_row _ _ _ _ _ HS2.out
  have z6 : W2.cell? ⟨w.heap.size + 1 + 1, 6, none⟩ = some (.int .i64 0) := cell_of_row _ _ _ _ _ _ HS2.out
  have f6 : W2.frozen? ⟨w.heap.size + 1 + 1, 6, none⟩ = false := frozen_of_row _ _ _ _ _ HS2.out
  have z7 : W2.cell? ⟨w.heap.size + 1 + 1, 7, none⟩ = some (.int .i64 0) := cell_of_row _ _ _ _ _ _ HS2.out
  have f7 : W2.frozen? ⟨w.heap.size + 1 + 1, 7, none⟩ = false := frozen_of_row _ _ _ _ _ HS2.out
  have z8 : W2.cell? ⟨w.heap.size + 1 + 1, 8, none⟩ = some (.int .i64 0) := cell_of_row _ _ _ _ _ _ HS2.out
  have f8 : W2.frozen? ⟨w.heap.size + 1 + 1, 8, none⟩ = false := frozen_of_row _ _ _ _ _ HS2.out
  have z9 : W2.cell? ⟨w.heap.size + 1 + 1, 9, none⟩ = some (.int .i64 0) := cell_of_row _ _ _ _ _ _ HS2.out
  have f9 : W2.frozen? ⟨w.heap.size + 1 + 1, 9, none⟩ = false := frozen_of_row _ _ _ _ _ HS2.out
  have z10 : W2.cell? ⟨w.heap.size + 1 + 1, 10, none⟩ = some (.int .i64 0) := cell_of_row _ _ _ _ _ _ HS2.out
  have f10 : W2.frozen? ⟨w.heap.size + 1 + 1, 10, none⟩ = false := frozen_of_row _ _ _ _ _ HS2.out
  have z11 : W2.cell? ⟨w.heap.size + 1 + 1, 11, none⟩ = some (.int .i64 0) := cell_of_row _ _ _ _ _ _ HS2.out
  have f11 : W2.frozen? ⟨w.heap.size + 1 + 1, 11, none⟩ = false := frozen_of_row _ _ _ _ _ HS2.out
  have z12 : W2.cell? ⟨w.heap.size + 1 + 1, 12, none⟩ = some (.int .i64 0) := cell_of_row _ _ _ _ _ _ HS2.out
  have f12 : W2.frozen? ⟨w.heap.size + 1 + 1, 12, none⟩ = false := frozen_of_row _ _ _ _ _ HS2.out
  have z13 : W2.cell? ⟨w.heap.size + 1 + 1, 13, none⟩ = some (.int .i64 0) := cell_of_row _ _ _ _ _ _ HS2.out
  have f13 : W2.frozen? ⟨w.heap.size + 1 + 1, 13, none⟩ = false := frozen_of_row _ _ _ _ _ HS2.out
  go_wp2
  refine bodyPost_ret (ret_cell_one rfl _ _ (w.heap.size + 1 + 1) [.int .i64 v.nx, .int .i64 v.ny, .int .i64 v.nz, .int .i64 v.size, .int .i64 r.x, .int .i64 r.dx, .int .i64 v.nx, .int .i64 r.y, .int .i64 r.dy, .int .i64 v.ny, .int .i64 r.z, .int .i64 r.dz, .int .i64 v.nz, .int .i64 (T : Int)] rfl ?hr Tryz.underlying96 rfl size_walk) rfl ⟨rfl, ?_⟩
  case hr => exact World.rangeAt_setCells_same _ _ 0 _ (fun j hj => row_there HS2.out hj)
  exact rk_setCells (by omega) _ _ _ HBB.out
end Go.Proofs.YtkdopjkdokgipaaGreatDoor
namespace Go.Proofs.YtkdopjkdokgipaaGreatDoor
open Go.RowKit
set_option linter.unusedVariables false
set_option linter.unusedSimpArgs false
/-- where the axes are, as far as that is known -/
def caI (v : VO) (r : RY) (p q : Int) (i j : Nat) : Int := if j < i then cAx (tkF r) v.size (axF v r j) p q else 0
theorem ix_axes (v : VO) (r : RY) {i : Nat} (hi : i < 3) : ∀ W : World, (Instr.index 94 (.agg #[.int .i64 r.x, .int .i64 r.dx, .int .i64 v.nx, .int .i64 r.y, .int .i64 r.dy, .int .i64 v.ny, .int .i64 r.z, .int .i64 r.dz, .int .i64 v.nz]) (.int .i64 (i : Int))).run Tryz.prog W = .ok (axF v r i).val W := by
  match i, hi with
  | 0, _ => intro W; kernel_rfl
  | 1, _ => intro W; kernel_rfl
  | 2, _ => intro W; kernel_rfl
theorem ca_set {v : VO} {r : RY} {p q : Int} {i : Nat} (hi : i < 3) : (#[Value.int .i64 (caI v r p q i 0), .int .i64 (caI v r p q i 1), .int .i64 (caI v r p q i 2)] : Array Value).setIfInBounds i (.int .i64 (cAx (tkF r) v.size (axF v r i) p q)) = #[.int .i64 (caI v r p q (i + 1) 0), .int .i64 (caI v r p q (i + 1) 1), .int .i64 (caI v r p q (i + 1) 2)] := by
  match i, hi with
  | 0, _ => rfl
  | 1, _ => rfl
  | 2, _ => rfl
theorem cell_no {v : VO} {r : RY} {p q : Int} {i : Nat} (hi : i < 3) (h : cAx (tkF r) v.size (axF v r i) p q < 0) : cellF v r p q = -1 := by
  unfold cellF
  rw [if_pos]
  match i, hi with
  | 0, _ => exact .inl h
  | 1, _ => exact .inr (.inl h)
  | 2, _ => exact .inr (.inr h)
theorem cell_yes {v : VO} {r : RY} {p q : Int} (h : ∀ j, j < 3 → 0 ≤ cAx (tkF r) v.size (axF v r j) p q) : cellF v r p q = (caI v r p q 3 2 * v.ny + caI v r p q 3 1) * v.nx + caI v r p q 3 0 := by
  unfold cellF
  rw [if_neg]
  · rfl
  · have h0 := h 0 (by omega)
    have h1 := h 1 (by omega)
    have h2 := h 2 (by omega)
    omega
/-- the boxes -/
structure CeI (q : Nat) (v : VO) (r : RY) (x y : Int) (i : Nat) (w W : World) : Prop where
  below : Below w.heap.size w W
  wk : W.heap[q]? = some (.cells #[.int .i64 v.nx, .int .i64 v.ny, .int .i64 v.nz, .int .i64 v.size, .int .i64 r.x, .int .i64 r.dx, .int .i64 v.nx, .int .i64 r.y, .int .i64 r.dy, .int .i64 v.ny, .int .i64 r.z, .int .i64 r.dz, .int .i64 v.nz, .int .i64 (tkF r : Int)] 96)
  at_ : W.heap[q + 1]? = some (.cells #[.int .i64 (caI v r x y i 0), .int .i64 (caI v r x y i 1), .int .i64 (caI v r x y i 2)] 159)
  done : ∀ j, j < i → 0 ≤ cAx (tkF r) v.size (axF v r j) x y
theorem CeI.step {q : Nat} {v : VO} {r : RY} {x y : Int} {i : Nat} {w W W' : World} (h : CeI q v r x y i w W) (hb : Below W.heap.size W W') : CeI q v r x y i w W' :=
  ⟨h.below.trans (hb.mono h.below.size), (hb.block _ (bl h.wk)).trans h.wk, (hb.block _ (bl h.at_)).trans h.at_, h.done⟩
theorem CeI.set {q : Nat} {v : VO} {r : RY} {x y : Int} {i : Nat} {w W : World} (h : CeI q v r x y i w W) (hi : i < 3) (hq : w.heap.size ≤ q) (h0 : 0 ≤ cAx (tkF r) v.size (axF v r i) x y) : CeI q v r x y (i + 1) w (W.setCell ⟨q + 1, i, none⟩ (.int .i64 (cAx (tkF r) v.size (axF v r i) x y))) :=
  ⟨h.below.setCell (p := ⟨q + 1, i, none⟩) (show w.heap.size ≤ q + 1 by omega) _, (heap_setCell_other W ⟨q + 1, i, none⟩ q _ (by show q ≠ q + 1; omega)).trans h.wk, by
    have h1 := heap_setCell_same W (q + 1) i _ _ (.int .i64 (cAx (tkF r) v.size (axF v r i) x y)) h.at_
    rw [ca_set hi] at h1
    exact h1, fun j hj => by
    by_cases e : j = i
    · subst e; exact h0
    · exact h.done j (by omega)⟩
set_option maxRecDepth 100000 in
set_option maxHeartbeats 2000000 in
theorem cell_any (v : VO) (r : RY) (x y : Int) (w : World) (hv : v.Ok) (hr : r.Ok) (hx : -1 ≤ x ∧ x ≤ 43200000000) (hy : -1 ≤ y ∧ y ≤ 43200000000) :
    Calls Tryz.prog 100 #[wkVal v r, .int .i64 x, .int .i64 y] w fun e w' => e = .returned (.int .i64 (cellF v r x y)) ∧ Below w.heap.size w w' := by
  have HV := Lib.hid hv
  have HR := Lib.hid hr
  obtain ⟨hx1, hx2⟩ := hx
  obtain ⟨hy1, hy2⟩ := hy
  have HNO := Lib.hid (fun (i : Nat) (hi : i < 3) (h : cAx (tkF r) v.size (axF v r i) x y < 0) => cell_no hi h)
  have HYES := Lib.hid (fun (h : ∀ j, j < 3 → 0 ≤ cAx (tkF r) v.size (axF v r j) x y) => cell_yes h)
  have HCB := Lib.hid (cell_bound hv hr x y)
  generalize cellF v r x y = RES at *
  unfold wkVal
  clear hv hr
  go_enter Tryz.func100, Tryz.ntmps100
  go_upto_region 2 with (fail)
  obtain ⟨hVb, e1, e2⟩ := rk_two w (.cells #[.int .i64 v.nx, .int .i64 v.ny, .int .i64 v.nz, .int .i64 v.size, .int .i64 r.x, .int .i64 r.dx, .int .i64 v.nx, .int .i64 r.y, .int .i64 r.dy, .int .i64 v.ny, .int .i64 r.z, .int .i64 r.dz, .int .i64 v.nz, .int .i64 (tkF r : Int)] 96) (.cells #[.int .i64 0, .int .i64 0, .int .i64 0] 159)
  have HI := Lib.hid (show CeI w.heap.size v r x y 0 w ((w.alloc (.cells #[.int .i64 v.nx, .int .i64 v.ny, .int .i64 v.nz, .int .i64 v.size, .int .i64 r.x, .int .i64 r.dx, .int .i64 v.nx, .int .i64 r.y, .int .i64 r.dy, .int .i64 v.ny, .int .i64 r.z, .int .i64 r.dz, .int .i64 v.nz, .int .i64 (tkF r : Int)] 96)).alloc (.cells #[.int .i64 0, .int .i64 0, .int .i64 0] 159)) from ⟨hVb, e1, e2, fun j hj => by omega⟩)
  clear hVb e1 e2
  generalize World.alloc (World.alloc w _) _ = V at *
  have m4 := cell_of_row _ _ 4 _ _ _ HI.out.wk
  have m5 := cell_of_row _ _ 5 _ _ _ HI.out.wk
  have m6 := cell_of_row _ _ 6 _ _ _ HI.out.wk
  have m7 := cell_of_row _ _ 7 _ _ _ HI.out.wk
  have m8 := cell_of_row _ _ 8 _ _ _ HI.out.wk
  have m9 := cell_of_row _ _ 9 _ _ _ HI.out.wk
  have m10 := cell_of_row _ _ 10 _ _ _ HI.out.wk
  have m11 := cell_of_row _ _ 11 _ _ _ HI.out.wk
  have m12 := cell_of_row _ _ 12 _ _ _ HI.out.wk
  go_wp2
  clear m4 m5 m6 m7 m8 m9 m10 m11 m12
  go_loopw [13] (fun s wr => ∃ i : Nat, i ≤ 3 ∧ s = .int .i64 (i : Int) ∧ Hid (CeI w.heap.size v r x y i w wr)) (fun s _ => 3 - (intOf s).toNat)
  case atStart => exact ⟨0, by omega, rfl, HI⟩
  case round =>
    clear HI
    obtain ⟨i, hi, rfl, HI⟩ := hrel
    by_cases hlt : i < 3
    · have hlt' : (i : Int) < 3 := by omega
      have hix := ix_axes v r hlt
      unfold AX.val at hix
      obtain ⟨⟨g1, g2⟩, ⟨g3, g4⟩, g5, g6⟩ := ax_bound HV.out HR.out i
      obtain ⟨hT1, hT2⟩ := tkF_bound HR.out
      obtain ⟨hS1, hS2⟩ := HV.out.size
      have HN := Lib.hid (HNO.out i hlt)
      have HSET := Lib.hid (HI.out.set hlt (Nat.le_refl _))
      have HCA := Lib.hid (show cAx (tkF r) v.size (axF v r i) x y = if 2 * (axF v r i).b * (tkF r : Int) + (axF v r i).t * (x + y) < 0 then -1 else if (axF v r i).c ≤ (2 * (axF v r i).b * (tkF r : Int) + (axF v r i).t * (x + y)).tdiv (2 * (tkF r : Int) * v.size) then -1 else (2 * (axF v r i).b * (tkF r : Int) + (axF v r i).t * (x + y)).tdiv (2 * (tkF r : Int) * v.size) from rfl)
      have hm1 := rk_mul_abs (x := 2 * (axF v r i).b) (y := (tkF r : Int)) (K := 200000) (M := 216000) (by decide) (by decide) (by omega) (by omega)
      have hm2 := rk_mul_abs (x := (axF v r i).t) (y := x + y) (K := 60) (M := 86400000000) (by decide) (by decide) (by omega) (by omega)
      have hm3 := rk_mul_abs (x := 2 * (tkF r : Int)) (y := v.size) (K := 432000) (M := 1000) (by decide) (by decide) (by omega) (by omega)
      have hm4 : 0 < 2 * (tkF r : Int) * v.size := Int.mul_pos (by omega) (by omega)
      have a3 := cell_of_row _ _ 3 _ _ _ HI.out.wk
      have a13 := cell_of_row _ _ 13 _ _ _ HI.out.wk
      have lz := (bl HI.out.wk)
      have lz1 := (bl HI.out.at_)
      generalize hcax : cAx (tkF r) v.size (axF v r i) x y = CA at *
      generalize (axF v r i).b = ab at *
      generalize (axF v r i).t = at_ at *
      generalize (axF v r i).c = ac at *
      go_upto_region 5 with (fail)
      have hb1 := rk_below wr (.cells #[.int .i64 ab, .int .i64 at_, .int .i64 ac] 93)
      have hn1 := heap_alloc_new wr (.cells #[.int .i64 ab, .int .i64 at_, .int .i64 ac] 93)
      have HI1 := Lib.hid (HI.out.step hb1)
      have HSET1 := Lib.hid (fun (h : 0 ≤ CA) => (HI1.out.set hlt (Nat.le_refl _) (by rw [hcax]; exact h)))
      have hxq := lz1
      clear HI HSET a3 a13 lz lz1 hb1 hix
      have lx := (bl hn1)
      generalize World.alloc wr _ = V1 at *
      generalize wr.heap.size = xb at *
      have a3 := cell_of_row _ _ 3 _ _ _ HI1.out.wk
      have a13 := cell_of_row _ _ 13 _ _ _ HI1.out.wk
      obtain ⟨x0, x1, x2⟩ := cr3 hn1
      have HX := Lib.hid hn1
      have lz := (bl HI1.out.wk)
      have lz1 := (bl HI1.out.at_)
      have z1 : ∃ u, V1.cell? ⟨w.heap.size + 1, i, none⟩ = some u := ⟨_, by
        rw [cell_of_row _ _ i _ _ _ HI1.out.at_]
        exact Array.getElem?_eq_getElem (by simpa using hlt)⟩
      have zf : V1.frozen? ⟨w.heap.size + 1, i, none⟩ = false := frozen_of_row _ _ _ _ _ HI1.out.at_
      obtain ⟨zu, z1⟩ := z1
      clear hn1
      have HCAX := Lib.hid hcax
      clear hcax
      generalize hs1 : 2 * ab * (tkF r : Int) = s1 at *
      generalize hs2 : x + y = s2 at *
      generalize hs3 : at_ * s2 = s3 at *
      generalize hs4 : 2 * (tkF r : Int) * v.size = s4 at *
      generalize hs5 : s1 + s3 = s5 at *
      obtain ⟨hq1, hq2⟩ := tdiv_abs s5 s4 6000000000000 (by omega)
      have hd4 : (s4 == 0) = false := beq_eq_false_iff_ne.2 (by omega)
      by_cases hneg : s5 < 0
      · have HE := Lib.hid (HN.out (by rw [HCA.out, if_pos hneg]; decide))
        obtain rfl := HE.out
        go_wp2
        go_ret
        exact ⟨rfl, HI1.out.below⟩
      · rw [if_neg hneg] at HCA
        have hq0 : 0 ≤ s5.tdiv s4 := Int.tdiv_nonneg (by omega) (by omega)
        generalize hqq : s5.tdiv s4 = qq at *
        by_cases hge : ac ≤ qq
        · have HE := Lib.hid (HN.out (by rw [HCA.out, if_pos hge]; decide))
          obtain rfl := HE.out
          go_upto_region 9 with (fail)
          (have zs := World.cell?_setCell_same' V1 ⟨w.heap.size + 1, i, none⟩ (.int .i64 qq) (by rw [z1]; rfl); have x2' := (World.cell?_of_block (heap_setCell_other V1 ⟨w.heap.size + 1, i, none⟩ xb (.int .i64 qq) (by show xb ≠ w.heap.size + 1; omega))).trans x2; have HB2 := Lib.hid (HI1.out.below.setCell (p := ⟨w.heap.size + 1, i, none⟩) (show w.heap.size ≤ w.heap.size + 1 by omega) (.int .i64 qq)); have lz1' : w.heap.size + 1 < (V1.setCell ⟨w.heap.size + 1, i, none⟩ (.int .i64 qq)).heap.size := (by simpa using lz1); have lx' : xb < (V1.setCell ⟨w.heap.size + 1, i, none⟩ (.int .i64 qq)).heap.size := (by simpa using lx); clear a3 a13 x0 x1 x2 lz z1 zf HX; generalize World.setCell V1 ⟨w.heap.size + 1, i, none⟩ (.int .i64 qq) = V2 at *)
          (refine wp_region_calm (V2.heap.size) (by kernel_rfl) (by kernel_rfl) ?_; (repeat (first | go_big_quiet_step (fail) | quiet_step (fail))); refine wpQuiet_nil ?_; intro _ hw'; obtain ⟨xq, hw''⟩ := hw'; subst hw'')
          have HB3 := Lib.hid (HB2.out.trans ((Calm.below xq).mono HB2.out.size))
          generalize Calm.val xq = wq at *
          go_wp2
          go_ret
          exact ⟨rfl, HB3.out⟩
        · rw [if_neg hge] at HCA
          have hge' : decide (ac ≤ qq) = false := decide_eq_false hge
          have HSET2 := Lib.hid (HSET1.out (by rw [HCA.out]; omega))
          rw [HCAX.out, HCA.out] at HSET2
          go_upto_region 9 with (fail)
          (have zs := World.cell?_setCell_same' V1 ⟨w.heap.size + 1, i, none⟩ (.int .i64 qq) (by rw [z1]; rfl); have x2' := (World.cell?_of_block (heap_setCell_other V1 ⟨w.heap.size + 1, i, none⟩ xb (.int .i64 qq) (by show xb ≠ w.heap.size + 1; omega))).trans x2; have HB2 := Lib.hid (HI1.out.below.setCell (p := ⟨w.heap.size + 1, i, none⟩) (show w.heap.size ≤ w.heap.size + 1 by omega) (.int .i64 qq)); have lz1' : w.heap.size + 1 < (V1.setCell ⟨w.heap.size + 1, i, none⟩ (.int .i64 qq)).heap.size := (by simpa using lz1); have lx' : xb < (V1.setCell ⟨w.heap.size + 1, i, none⟩ (.int .i64 qq)).heap.size := (by simpa using lx); clear a3 a13 x0 x1 x2 lz z1 zf HX; generalize World.setCell V1 ⟨w.heap.size + 1, i, none⟩ (.int .i64 qq) = V2 at *)
          (refine wp_region_calm (V2.heap.size) (by kernel_rfl) (by kernel_rfl) ?_; (repeat (first | go_big_quiet_step (fail) | quiet_step (fail))); refine wpQuiet_nil ?_; intro _ hw'; obtain ⟨xq, hw''⟩ := hw'; subst hw'')
          have HI3 := Lib.hid (HSET2.out.step (Calm.below xq))
          generalize Calm.val xq = wq at *
          go_wp2
          go_roundw
          case rel => first | exact ⟨i + 1, by omega, by go_num, HI3⟩ | ((repeat apply Exists.intro); exact ⟨⟨i + 1, by omega, by go_num, HI3⟩, rfl⟩)
          case measure => simp [intOf]; omega
    · obtain rfl : i = 3 := by omega
      have hlt' : ¬ (3 : Int) < 3 := by omega
      have HE := Lib.hid (HYES.out HI.out.done)
      obtain ⟨a0, a1⟩ := cr2 HI.out.wk
      obtain ⟨b0, b1, b2⟩ := cr3 HI.out.at_
      have hb0 : -1 ≤ caI v r x y 3 0 ∧ caI v r x y 3 0 < 12 := by
        have := cAx_bound (T := (tkF r : Int)) (S := v.size) (a := axF v r 0) (p := x) (q := y) (by have := tkF_bound HR.out; omega) HV.out.size.1 HV.out.x.1
        have h2 := HV.out.x
        show -1 ≤ cAx (tkF r) v.size (axF v r 0) x y ∧ cAx (tkF r) v.size (axF v r 0) x y < 12
        have h3 : (axF v r 0).c = v.nx := rfl
        omega
      have hb1 : -1 ≤ caI v r x y 3 1 ∧ caI v r x y 3 1 < 12 := by
        have := cAx_bound (T := (tkF r : Int)) (S := v.size) (a := axF v r 1) (p := x) (q := y) (by have := tkF_bound HR.out; omega) HV.out.size.1 HV.out.y.1
        have h2 := HV.out.y
        show -1 ≤ cAx (tkF r) v.size (axF v r 1) x y ∧ cAx (tkF r) v.size (axF v r 1) x y < 12
        have h3 : (axF v r 1).c = v.ny := rfl
        omega
      have hb2 : -1 ≤ caI v r x y 3 2 ∧ caI v r x y 3 2 < 12 := by
        have := cAx_bound (T := (tkF r : Int)) (S := v.size) (a := axF v r 2) (p := x) (q := y) (by have := tkF_bound HR.out; omega) HV.out.size.1 HV.out.z.1
        have h2 := HV.out.z
        show -1 ≤ cAx (tkF r) v.size (axF v r 2) x y ∧ cAx (tkF r) v.size (axF v r 2) x y < 12
        have h3 : (axF v r 2).c = v.nz := rfl
        omega
      generalize caI v r x y 3 0 = k0 at *
      generalize caI v r x y 3 1 = k1 at *
      generalize caI v r x y 3 2 = k2 at *
      have hx := HV.out.x
      have hy := HV.out.y
      have hm1 := rk_mul_abs (x := k2) (y := v.ny) (K := 12) (M := 12) (by decide) (by decide) (by omega) (by omega)
      have hm2 := rk_mul_abs (x := k2 * v.ny + k1) (y := v.nx) (K := 156) (M := 12) (by decide) (by decide) (by omega) (by omega)
      generalize hs1 : k2 * v.ny = s1 at *
      generalize hs2 : s1 + k1 = s2 at *
      generalize hs3 : s2 * v.nx = s3 at *
      obtain rfl := HE.out
      have HBB := Lib.hid HI.out.below
      clear HI HNO HYES HCB
      go_wp2
      go_ret
      exact ⟨rfl, HBB.out⟩
end Go.Proofs.YtkdopjkdokgipaaGreatDoor
