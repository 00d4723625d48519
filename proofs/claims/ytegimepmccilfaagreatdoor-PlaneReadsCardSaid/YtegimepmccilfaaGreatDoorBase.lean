/- Memory words for the walks: slices of numbers and of small structs that came in, worlds that keep all below a block number, regions that read and call. No program here. -/
import Derived.WalkKit
import Derived.WalkSpells
import Derived.WalkLawsBesides
import Derived.Lib.Hide
import Derived.BigQuiet
import Derived.Deep.QuietTactic
import Derived.Deep.Light
import Derived.Deep.DeepCutAuto
import Derived.Deep.CutRange
import Derived.Laws.EntriesVeiled
import Derived.Deep.LoopGhost
namespace Go.Proofs.YtegimepmccilfaaGreatDoor
open Go.RowKit
set_option linter.unusedVariables false
set_option linter.unusedSimpArgs false

theorem bcell {W w1 : World} {B : Nat} (hb : Below B W w1) : (∀ b o, b < B → w1.cell? ⟨b, o, none⟩ = W.cell? ⟨b, o, none⟩) ∧ (∀ b o, b < B → w1.frozen? ⟨b, o, none⟩ = W.frozen? ⟨b, o, none⟩) :=
  ⟨fun b o h => hb.cell (p := ⟨b, o, none⟩) h, fun b o h => hb.frozen (p := ⟨b, o, none⟩) h⟩

theorem ret_bool {a b : Bool} (h : a = b) : Ending.returned (.bool a) = .returned (.bool b) := by rw [h]
theorem ret_int {k : IntKind} {a b : Int} (h : a = b) : Ending.returned (.int k a) = .returned (.int k b) := by rw [h]

/-- A world that is as W was below block B. -/
structure Calm (B : Nat) (W : World) where
  val : World
  below : Below B W val
instance {B : Nat} {W : World} : Nonempty (Calm B W) := ⟨⟨W, Below.refl _ _⟩⟩
theorem Calm.cell {B : Nat} {W : World} (x : Calm B W) {b o : Nat} (h : b < B) : x.val.cell? ⟨b, o, none⟩ = W.cell? ⟨b, o, none⟩ := x.below.cell (p := ⟨b, o, none⟩) h
theorem Calm.frozen {B : Nat} {W : World} (x : Calm B W) {b o : Nat} (h : b < B) : x.val.frozen? ⟨b, o, none⟩ = W.frozen? ⟨b, o, none⟩ := x.below.frozen (p := ⟨b, o, none⟩) h
attribute [go_sem] Calm.cell Calm.frozen

/-- A region that draws its order, whose operations read what lies below B and whose callees leave that alone: one walk, in the text's order. -/
theorem wp_region_calm {P : Program} (B : Nat) {id : Nat} {Q : Exit → Act → World → Prop} {a : Act} {w : World} {l : List Oper} (hm : P.follows .mixedOrders = true) (hB : Region.lexB .any l.toArray = true)
    (h : wpQuiet P l.toArray (fun w' => ∃ x : Calm B w, w' = x.val) (fun a' => ∀ w', (∃ x : Calm B w, w' = x.val) → Q .normal a' w') l a) : (Code.region id l.toArray true).wp P Q a w :=
  wp_region_quiet (C := fun w' => ∃ x : Calm B w, w' = x.val) hm hB ⟨⟨w.drew, (Below.refl _ _).drew⟩, rfl⟩ (by simpa using h)

/-- A callee that makes memory, met in such a region. -/
theorem Calls.calm_of {P : Program} {f : FuncId} {args : Array Value} {B : Nat} {W : World} {x : Calm B W} {v : Value} (hB : B ≤ W.heap.size)
    (h : Calls P f args x.val fun e w' => e = .returned v ∧ Below x.val.heap.size x.val w') : Calls P f args x.val fun e w'' => e = .returned v ∧ ∃ y : Calm B W, w'' = y.val :=
  h.mono fun _ w1 ⟨he, hb⟩ => ⟨he, ⟨w1, x.below.trans (hb.mono (Nat.le_trans hB x.below.size))⟩, rfl⟩
theorem Calls.calm_same {P : Program} {f : FuncId} {args : Array Value} {B : Nat} {W : World} {x : Calm B W} {v : Value}
    (h : Calls P f args x.val fun e w' => e = .returned v ∧ x.val = w') : Calls P f args x.val fun e w'' => e = .returned v ∧ ∃ y : Calm B W, w'' = y.val :=
  h.mono fun _ w1 ⟨he, hb⟩ => ⟨he, x, hb.symm⟩

/-- All numbers below n answer yes. -/
def allUpto (n : Nat) (f : Nat → Bool) : Bool := (List.range n).all f
theorem allUpto_true {n : Nat} {f : Nat → Bool} (h : ∀ j, j < n → f j = true) : allUpto n f = true := by simpa [allUpto] using h
theorem allUpto_false {n : Nat} {f : Nat → Bool} {j : Nat} (hj : j < n) (h : f j = false) : allUpto n f = false := by
  simp only [allUpto, List.all_eq_false, List.mem_range]; exact ⟨j, hj, by simp [h]⟩
theorem allUpto_iff {n : Nat} {f : Nat → Bool} : allUpto n f = true ↔ ∀ j, j < n → f j = true := by simp [allUpto]

/-- A slice of numbers that lies below block B. -/
def Ints (B : Nat) (w : World) (a : Option Addr) (n : Nat) (xs : Nat → Int) : Prop :=
  n = 0 ∨ ∃ b off, a = some ⟨b, off, none⟩ ∧ b < B ∧ ∀ i, i < n → w.cell? ⟨b, off + i, none⟩ = some (.int .i64 (xs i))
theorem Ints.below {B : Nat} {w w' : World} {a : Option Addr} {n : Nat} {xs : Nat → Int} (h : Ints B w a n xs) (hb : Below B w w') : Ints B w' a n xs := by
  rcases h with h | ⟨b, off, ha, hB, hc⟩
  · exact .inl h
  · exact .inr ⟨b, off, ha, hB, fun i hi => (hb.cell (p := ⟨b, off + i, none⟩) hB).trans (hc i hi)⟩
theorem Ints.up {B B' : Nat} {w : World} {a : Option Addr} {n : Nat} {xs : Nat → Int} (h : Ints B w a n xs) (hb : B ≤ B') : Ints B' w a n xs := by
  rcases h with h | ⟨b, off, ha, hB, hc⟩
  · exact .inl h
  · exact .inr ⟨b, off, ha, by omega, hc⟩

end Go.Proofs.YtegimepmccilfaaGreatDoor
