/- Texts put together: Base, ImData, OpenIm, RkDat, Own0. -/
import Derived.WalkKit
import Derived.WalkSpells
import Derived.WalkLawsBesides
import Derived.Lib.Hide
import Derived.BigQuiet
import Derived.Deep.QuietTactic
import Derived.Deep.Light
import Derived.Deep.DeepCutAuto
import Derived.Deep.CutRange
import Derived.Laws.EntriesVeiled
import Derived.Deep.LoopGhost
import Derived.Test.YtgmpelhphnmknaaGreatRows
import Derived.ProofKit
import Derived.OpenShut
import Derived.ChangeOld
import Derived.Below
import Derived.Deep.Slices
import Derived.Deep.Fields
import Derived.ChangeSame
import Derived.Lib.SmallJoins
import Derived.Deep.OwnRows
set_option maxRecDepth 100000
set_option maxHeartbeats 8000000
set_option linter.unusedVariables false
set_option linter.unusedSimpArgs false
namespace Go.Proofs.YtgmpelhphnmknaaGreat
open Go.RowKit

theorem hng {α : Type} : (∀ (xs : List α) (i : Nat) (h : i < xs.toArray.size), xs.toArray[i] = xs[i]'(by simpa using h)) ∧ (∀ (a : α) (l : List α) (h : 0 < (a :: l).length), (a :: l)[0] = a) ∧ (∀ (a : α) (l : List α) (i : Nat) (h : i + 1 < (a :: l).length), (a :: l)[i + 1] = l[i]'(by simpa using h)) := ⟨fun _ _ _ => List.getElem_toArray .., fun _ _ _ => rfl, fun _ _ _ _ => rfl⟩
theorem hns {α : Type} : (∀ (l : List α) (i : Nat) (a : α), l.toArray.setIfInBounds i a = (l.set i a).toArray) ∧ (∀ (a b : α) (l : List α), (a :: l).set 0 b = b :: l) ∧ (∀ (a b : α) (l : List α) (i : Nat), (a :: l).set (i + 1) b = a :: l.set i b) := ⟨fun _ _ _ => List.setIfInBounds_toArray .., fun _ _ _ => rfl, fun _ _ _ _ => rfl⟩
theorem blkL {α : Type} {xs : Array α} {i : Nat} {o : α} (h : xs[i]? = some o) : i < xs.size := (Array.getElem?_eq_some_iff.1 h).1
theorem blkS {W W' : World} {b : Nat} {o : Obj} (h : W.heap[b]? = some o) (hb : Below W.heap.size W W') : W'.heap[b]? = some o := (hb.block _ (Array.getElem?_eq_some_iff.1 h).1).trans h
theorem cr2 {W : World} {b : Nat} {xs : Array Value} {t : TypeId} (h : W.heap[b]? = some (.cells xs t)) : W.cell? ⟨b, 0, none⟩ = xs[0]? ∧ W.cell? ⟨b, 1, none⟩ = xs[1]? := ⟨cell_of_row _ _ 0 _ _ _ h, cell_of_row _ _ 1 _ _ _ h⟩
theorem cr3 {W : World} {b : Nat} {xs : Array Value} {t : TypeId} (h : W.heap[b]? = some (.cells xs t)) : W.cell? ⟨b, 0, none⟩ = xs[0]? ∧ W.cell? ⟨b, 1, none⟩ = xs[1]? ∧ W.cell? ⟨b, 2, none⟩ = xs[2]? := ⟨cell_of_row _ _ 0 _ _ _ h, cell_of_row _ _ 1 _ _ _ h, cell_of_row _ _ 2 _ _ _ h⟩
theorem cr4 {W : World} {b : Nat} {xs : Array Value} {t : TypeId} (h : W.heap[b]? = some (.cells xs t)) : W.cell? ⟨b, 0, none⟩ = xs[0]? ∧ W.cell? ⟨b, 1, none⟩ = xs[1]? ∧ W.cell? ⟨b, 2, none⟩ = xs[2]? ∧ W.cell? ⟨b, 3, none⟩ = xs[3]? := ⟨cell_of_row _ _ 0 _ _ _ h, cell_of_row _ _ 1 _ _ _ h, cell_of_row _ _ 2 _ _ _ h, cell_of_row _ _ 3 _ _ _ h⟩
theorem cr5 {W : World} {b : Nat} {xs : Array Value} {t : TypeId} (h : W.heap[b]? = some (.cells xs t)) : W.cell? ⟨b, 0, none⟩ = xs[0]? ∧ W.cell? ⟨b, 1, none⟩ = xs[1]? ∧ W.cell? ⟨b, 2, none⟩ = xs[2]? ∧ W.cell? ⟨b, 3, none⟩ = xs[3]? ∧ W.cell? ⟨b, 4, none⟩ = xs[4]? := ⟨cell_of_row _ _ 0 _ _ _ h, cell_of_row _ _ 1 _ _ _ h, cell_of_row _ _ 2 _ _ _ h, cell_of_row _ _ 3 _ _ _ h, cell_of_row _ _ 4 _ _ _ h⟩
theorem cr6 {W : World} {b : Nat} {xs : Array Value} {t : TypeId} (h : W.heap[b]? = some (.cells xs t)) : W.cell? ⟨b, 0, none⟩ = xs[0]? ∧ W.cell? ⟨b, 1, none⟩ = xs[1]? ∧ W.cell? ⟨b, 2, none⟩ = xs[2]? ∧ W.cell? ⟨b, 3, none⟩ = xs[3]? ∧ W.cell? ⟨b, 4, none⟩ = xs[4]? ∧ W.cell? ⟨b, 5, none⟩ = xs[5]? := ⟨cell_of_row _ _ 0 _ _ _ h, cell_of_row _ _ 1 _ _ _ h, cell_of_row _ _ 2 _ _ _ h, cell_of_row _ _ 3 _ _ _ h, cell_of_row _ _ 4 _ _ _ h, cell_of_row _ _ 5 _ _ _ h⟩
theorem cr8 {W : World} {b : Nat} {xs : Array Value} {t : TypeId} (h : W.heap[b]? = some (.cells xs t)) : W.cell? ⟨b, 0, none⟩ = xs[0]? ∧ W.cell? ⟨b, 1, none⟩ = xs[1]? ∧ W.cell? ⟨b, 2, none⟩ = xs[2]? ∧ W.cell? ⟨b, 3, none⟩ = xs[3]? ∧ W.cell? ⟨b, 4, none⟩ = xs[4]? ∧ W.cell? ⟨b, 5, none⟩ = xs[5]? ∧ W.cell? ⟨b, 6, none⟩ = xs[6]? ∧ W.cell? ⟨b, 7, none⟩ = xs[7]? := ⟨cell_of_row _ _ 0 _ _ _ h, cell_of_row _ _ 1 _ _ _ h, cell_of_row _ _ 2 _ _ _ h, cell_of_row _ _ 3 _ _ _ h, cell_of_row _ _ 4 _ _ _ h, cell_of_row _ _ 5 _ _ _ h, cell_of_row _ _ 6 _ _ _ h, cell_of_row _ _ 7 _ _ _ h⟩
theorem cr14 {W : World} {b : Nat} {xs : Array Value} {t : TypeId} (h : W.heap[b]? = some (.cells xs t)) : W.cell? ⟨b, 0, none⟩ = xs[0]? ∧ W.cell? ⟨b, 1, none⟩ = xs[1]? ∧ W.cell? ⟨b, 2, none⟩ = xs[2]? ∧ W.cell? ⟨b, 3, none⟩ = xs[3]? ∧ W.cell? ⟨b, 4, none⟩ = xs[4]? ∧ W.cell? ⟨b, 5, none⟩ = xs[5]? ∧ W.cell? ⟨b, 6, none⟩ = xs[6]? ∧ W.cell? ⟨b, 7, none⟩ = xs[7]? ∧ W.cell? ⟨b, 8, none⟩ = xs[8]? ∧ W.cell? ⟨b, 9, none⟩ = xs[9]? ∧ W.cell? ⟨b, 10, none⟩ = xs[10]? ∧ W.cell? ⟨b, 11, none⟩ = xs[11]? ∧ W.cell? ⟨b, 12, none⟩ = xs[12]? ∧ W.cell? ⟨b, 13, none⟩ = xs[13]? := ⟨cell_of_row _ _ 0 _ _ _ h, cell_of_row _ _ 1 _ _ _ h, cell_of_row _ _ 2 _ _ _ h, cell_of_row _ _ 3 _ _ _ h, cell_of_row _ _ 4 _ _ _ h, cell_of_row _ _ 5 _ _ _ h, cell_of_row _ _ 6 _ _ _ h, cell_of_row _ _ 7 _ _ _ h, cell_of_row _ _ 8 _ _ _ h, cell_of_row _ _ 9 _ _ _ h, cell_of_row _ _ 10 _ _ _ h, cell_of_row _ _ 11 _ _ _ h, cell_of_row _ _ 12 _ _ _ h, cell_of_row _ _ 13 _ _ _ h⟩
theorem hnq {α : Type} : (∀ (l : List α) (i : Nat), l.toArray[i]? = l[i]?) ∧ (∀ (a : α) (l : List α), (a :: l)[0]? = some a) ∧ (∀ (a : α) (l : List α) (i : Nat), (a :: l)[i + 1]? = l[i]?) := ⟨fun _ _ => List.getElem?_toArray .., fun _ _ => rfl, fun _ _ _ => rfl⟩
theorem Hd {p : Prop} (h : p) : Hid p := Lib.hid h
theorem fr2 {W : World} {b : Nat} {xs : Array Value} {t : TypeId} (h : W.heap[b]? = some (.cells xs t)) : W.frozen? ⟨b, 0, none⟩ = false ∧ W.frozen? ⟨b, 1, none⟩ = false := ⟨frozen_of_row _ _ 0 _ _ h, frozen_of_row _ _ 1 _ _ h⟩
theorem fr3 {W : World} {b : Nat} {xs : Array Value} {t : TypeId} (h : W.heap[b]? = some (.cells xs t)) : W.frozen? ⟨b, 0, none⟩ = false ∧ W.frozen? ⟨b, 1, none⟩ = false ∧ W.frozen? ⟨b, 2, none⟩ = false := ⟨frozen_of_row _ _ 0 _ _ h, frozen_of_row _ _ 1 _ _ h, frozen_of_row _ _ 2 _ _ h⟩
theorem fr4 {W : World} {b : Nat} {xs : Array Value} {t : TypeId} (h : W.heap[b]? = some (.cells xs t)) : W.frozen? ⟨b, 0, none⟩ = false ∧ W.frozen? ⟨b, 1, none⟩ = false ∧ W.frozen? ⟨b, 2, none⟩ = false ∧ W.frozen? ⟨b, 3, none⟩ = false := ⟨frozen_of_row _ _ 0 _ _ h, frozen_of_row _ _ 1 _ _ h, frozen_of_row _ _ 2 _ _ h, frozen_of_row _ _ 3 _ _ h⟩
theorem hnm {P Q : Prop} (q : Q) (h : Q → P := by ((try simp only [hng]); (try dsimp only [Act.put]); (try simp only [hns]); exact fun q => q)) : P := h q
theorem bcell {W w1 : World} {B : Nat} (hb : Below B W w1) : (∀ b o, b < B → w1.cell? ⟨b, o, none⟩ = W.cell? ⟨b, o, none⟩) ∧ (∀ b o, b < B → w1.frozen? ⟨b, o, none⟩ = W.frozen? ⟨b, o, none⟩) :=
  ⟨fun b o h => hb.cell (p := ⟨b, o, none⟩) h, fun b o h => hb.frozen (p := ⟨b, o, none⟩) h⟩

theorem ret_bool {a b : Bool} (h : a = b) : Ending.returned (.bool a) = .returned (.bool b) := by rw [h]
theorem ret_int {k : IntKind} {a b : Int} (h : a = b) : Ending.returned (.int k a) = .returned (.int k b) := by rw [h]

structure Calm (B : Nat) (W : World) where
  val : World
  below : Below B W val
instance {B : Nat} {W : World} : Nonempty (Calm B W) := ⟨⟨W, Below.refl _ _⟩⟩
theorem Calm.cell {B : Nat} {W : World} (x : Calm B W) {b o : Nat} (h : b < B) : x.val.cell? ⟨b, o, none⟩ = W.cell? ⟨b, o, none⟩ := x.below.cell (p := ⟨b, o, none⟩) h
theorem Calm.frozen {B : Nat} {W : World} (x : Calm B W) {b o : Nat} (h : b < B) : x.val.frozen? ⟨b, o, none⟩ = W.frozen? ⟨b, o, none⟩ := x.below.frozen (p := ⟨b, o, none⟩) h
attribute [go_sem] Calm.cell Calm.frozen

theorem wp_region_calm {P : Program} (B : Nat) {id : Nat} {Q : Exit → Act → World → Prop} {a : Act} {w : World} {l : List Oper} (hm : P.follows .mixedOrders = true) (hB : Region.lexB .any l.toArray = true)
    (h : wpQuiet P l.toArray (fun w' => ∃ x : Calm B w, w' = x.val) (fun a' => ∀ w', (∃ x : Calm B w, w' = x.val) → Q .normal a' w') l a) : (Code.region id l.toArray true).wp P Q a w :=
  wp_region_quiet (C := fun w' => ∃ x : Calm B w, w' = x.val) hm hB ⟨⟨w.drew, (Below.refl _ _).drew⟩, rfl⟩ (by simpa using h)

theorem wqn {B : Nat} {W : World} {R : World → Prop} (h : ∀ x : Calm B W, R x.val) : ∀ w', (∃ x : Calm B W, w' = x.val) → R w' := by
  rintro _ ⟨x, rfl⟩
  exact h x
theorem Calls.calm_of {P : Program} {f : FuncId} {args : Array Value} {B : Nat} {W : World} {x : Calm B W} {v : Value} (hB : B ≤ W.heap.size)
    (h : Calls P f args x.val fun e w' => e = .returned v ∧ Below x.val.heap.size x.val w') : Calls P f args x.val fun e w'' => e = .returned v ∧ ∃ y : Calm B W, w'' = y.val :=
  h.mono fun _ w1 ⟨he, hb⟩ => ⟨he, ⟨w1, x.below.trans (hb.mono (Nat.le_trans hB x.below.size))⟩, rfl⟩
theorem Calls.calm_same {P : Program} {f : FuncId} {args : Array Value} {B : Nat} {W : World} {x : Calm B W} {v : Value}
    (h : Calls P f args x.val fun e w' => e = .returned v ∧ x.val = w') : Calls P f args x.val fun e w'' => e = .returned v ∧ ∃ y : Calm B W, w'' = y.val :=
  h.mono fun _ w1 ⟨he, hb⟩ => ⟨he, x, hb.symm⟩

def allUpto (n : Nat) (f : Nat → Bool) : Bool := (List.range n).all f
theorem allUpto_true {n : Nat} {f : Nat → Bool} (h : ∀ j, j < n → f j = true) : allUpto n f = true := by simpa [allUpto] using h
theorem allUpto_false {n : Nat} {f : Nat → Bool} {j : Nat} (hj : j < n) (h : f j = false) : allUpto n f = false := by
  simp only [allUpto, List.all_eq_false, List.mem_range]; exact ⟨j, hj, by simp [h]⟩
theorem allUpto_iff {n : Nat} {f : Nat → Bool} : allUpto n f = true ↔ ∀ j, j < n → f j = true := by simp [allUpto]

def Ints (B : Nat) (w : World) (a : Option Addr) (n : Nat) (xs : Nat → Int) : Prop :=
  n = 0 ∨ ∃ b off, a = some ⟨b, off, none⟩ ∧ b < B ∧ ∀ i, i < n → w.cell? ⟨b, off + i, none⟩ = some (.int .i64 (xs i))
theorem Ints.below {B : Nat} {w w' : World} {a : Option Addr} {n : Nat} {xs : Nat → Int} (h : Ints B w a n xs) (hb : Below B w w') : Ints B w' a n xs := by
  rcases h with h | ⟨b, off, ha, hB, hc⟩
  · exact .inl h
  · exact .inr ⟨b, off, ha, hB, fun i hi => (hb.cell (p := ⟨b, off + i, none⟩) hB).trans (hc i hi)⟩
theorem Ints.up {B B' : Nat} {w : World} {a : Option Addr} {n : Nat} {xs : Nat → Int} (h : Ints B w a n xs) (hb : B ≤ B') : Ints B' w a n xs := by
  rcases h with h | ⟨b, off, ha, hB, hc⟩
  · exact .inl h
  · exact .inr ⟨b, off, ha, by omega, hc⟩

end Go.Proofs.YtgmpelhphnmknaaGreat
namespace Go.Proofs.YtgmpelhphnmknaaGreat
open Go.RowKit
structure SV where
 lo : Int
 hi : Int
structure BM where
 ca : Option Addr
 cn : Nat
 cc : Nat
 wa : Option Addr
 wn : Nat
 wc : Nat
 lo : Int
 hi : Int
 cs : Nat → Int
 ws : Nat → Int
abbrev BM.val (b : BM) : Value := .agg #[.slice b.ca b.cn b.cc, .slice b.wa b.wn b.wc, .int .i64 b.lo, .int .i64 b.hi]
abbrev imageV (ca : Option Addr) (cn cc : Nat) (ba : Option Addr) (bn bc : Nat) : Value := .agg #[.slice ca cn cc, .slice ba bn bc]
def Spans (B : Nat) (w : World) (a : Option Addr) (n : Nat) (ss : Nat → SV) : Prop :=
 n ≤ maxLen ∧ (n = 0 ∨ ∃ b off, a = some ⟨b, off, none⟩ ∧ b < B ∧ ∀ i, i < n → w.cell? ⟨b, off + i * 2, none⟩ = some (.int .i64 (ss i).lo) ∧ w.cell? ⟨b, off + i * 2 + 1, none⟩ = some (.int .i64 (ss i).hi))
theorem Spans.below {B : Nat} {w w' : World} {a : Option Addr} {n : Nat} {ss : Nat → SV} (h : Spans B w a n ss) (hb : Below B w w') : Spans B w' a n ss := by
 refine ⟨h.1, ?_⟩
 rcases h.2 with h | ⟨b, off, ha, hB, hc⟩
 ·exact .inl h
 ·have c := (bcell hb).1
  exact .inr ⟨b, off, ha, hB, fun i hi => ⟨(c _ _ hB).trans (hc i hi).1, (c _ _ hB).trans (hc i hi).2⟩⟩
theorem Spans.up {B B' : Nat} {w : World} {a : Option Addr} {n : Nat} {ss : Nat → SV} (h : Spans B w a n ss) (hb : B ≤ B') : Spans B' w a n ss := by
 refine ⟨h.1, ?_⟩
 rcases h.2 with h | ⟨b, off, ha, hB, hc⟩
 ·exact .inl h
 ·exact .inr ⟨b, off, ha, by omega, hc⟩
theorem Spans.get {B : Nat} {w : World} {a : Option Addr} {n : Nat} {ss : Nat → SV} (h : Spans B w a n ss) {i : Nat} (hi : i < n) : ∃ b off, a = some ⟨b, off, none⟩ ∧ b < B ∧ w.cell? ⟨b, off + i * 2, none⟩ = some (.int .i64 (ss i).lo) ∧ w.cell? ⟨b, off + i * 2 + 1, none⟩ = some (.int .i64 (ss i).hi) := by
 rcases h.2 with h | ⟨b, off, ha, hB, hc⟩
 ·omega
 ·exact ⟨b, off, ha, hB, (hc i hi).1, (hc i hi).2⟩
theorem Ints.get {B : Nat} {w : World} {a : Option Addr} {n : Nat} {xs : Nat → Int} (h : Ints B w a n xs) {i : Nat} (hi : i < n) : ∃ b off, a = some ⟨b, off, none⟩ ∧ b < B ∧ w.cell? ⟨b, off + i, none⟩ = some (.int .i64 (xs i)) := by
 rcases h with h | ⟨b, off, ha, hB, hc⟩
 ·omega
 ·exact ⟨b, off, ha, hB, hc i hi⟩
def BM.at (p : BM) (w : World) (b o : Nat) : Prop :=
 w.cell? ⟨b, o, none⟩ = some (.slice p.ca p.cn p.cc) ∧ w.cell? ⟨b, o + 1, none⟩ = some (.slice p.wa p.wn p.wc) ∧ w.cell? ⟨b, o + 2, none⟩ = some (.int .i64 p.lo) ∧ w.cell? ⟨b, o + 3, none⟩ = some (.int .i64 p.hi)
theorem BM.at.below {p : BM} {w w' : World} {B b o : Nat} (h : p.at w b o) (hb : Below B w w') (hB : b < B) : p.at w' b o := by
 obtain ⟨h0, h1, h2, h3⟩ := h
 have c := (bcell hb).1
 exact ⟨(c _ _ hB).trans h0, (c _ _ hB).trans h1, (c _ _ hB).trans h2, (c _ _ hB).trans h3⟩
def BM.mem (p : BM) (B : Nat) (w : World) : Prop := p.cn ≤ maxLen ∧ p.wn ≤ maxLen ∧ Ints B w p.ca p.cn p.cs ∧ Ints B w p.wa p.wn p.ws
theorem BM.mem.below {p : BM} {B : Nat} {w w' : World} (h : p.mem B w) (hb : Below B w w') : p.mem B w' := ⟨h.1, h.2.1, h.2.2.1.below hb, h.2.2.2.below hb⟩
theorem BM.mem.up {p : BM} {B B' : Nat} {w : World} (h : p.mem B w) (hb : B ≤ B') : p.mem B' w := ⟨h.1, h.2.1, h.2.2.1.up hb, h.2.2.2.up hb⟩
def Beams (B : Nat) (w : World) (a : Option Addr) (n : Nat) (bs : Nat → BM) : Prop :=
 n ≤ maxLen ∧ (n = 0 ∨ ∃ b off, a = some ⟨b, off, none⟩ ∧ b < B ∧ ∀ i, i < n → (bs i).at w b (off + i * 4) ∧ (bs i).mem B w)
theorem Beams.below {B : Nat} {w w' : World} {a : Option Addr} {n : Nat} {bs : Nat → BM} (h : Beams B w a n bs) (hb : Below B w w') : Beams B w' a n bs := by
 refine ⟨h.1, ?_⟩
 rcases h.2 with h | ⟨b, off, ha, hB, hc⟩
 ·exact .inl h
 ·exact .inr ⟨b, off, ha, hB, fun i hi => ⟨(hc i hi).1.below hb hB, (hc i hi).2.below hb⟩⟩
theorem Beams.up {B B' : Nat} {w : World} {a : Option Addr} {n : Nat} {bs : Nat → BM} (h : Beams B w a n bs) (hb : B ≤ B') : Beams B' w a n bs := by
 refine ⟨h.1, ?_⟩
 rcases h.2 with h | ⟨b, off, ha, hB, hc⟩
 ·exact .inl h
 ·exact .inr ⟨b, off, ha, by omega, fun i hi => ⟨(hc i hi).1, (hc i hi).2.up hb⟩⟩
theorem Beams.get {B : Nat} {w : World} {a : Option Addr} {n : Nat} {bs : Nat → BM} (h : Beams B w a n bs) {i : Nat} (hi : i < n) : ∃ b off, a = some ⟨b, off, none⟩ ∧ b < B ∧ (bs i).at w b (off + i * 4) ∧ (bs i).mem B w := by
 rcases h.2 with h | ⟨b, off, ha, hB, hc⟩
 ·omega
 ·exact ⟨b, off, ha, hB, (hc i hi).1, (hc i hi).2⟩
def inB (a b c : Int) : Bool := decide (b ≤ a) && decide (a ≤ c)
theorem inB_iff {a b c : Int} : inB a b c = true ↔ b ≤ a ∧ a ≤ c := by simp [inB]
def spanB (s : SV) (most : Int) : Bool := inB s.lo 0 s.hi && decide (s.hi ≤ most)
def setAt (n : Nat) (cs : Nat → Int) (i : Nat) : Bool := inB (cs i) 0 ((n : Int) - 1) && (i == 0 || decide (cs (i - 1) < cs i))
def setB (n k : Nat) (cs : Nat → Int) : Bool := allUpto k (setAt n cs)
def beamB (n : Nat) (b : BM) : Bool := allUpto b.wn (fun i => inB (b.ws i) 1 1000000) && (setB n b.cn b.cs && ((b.wn == b.cn) && spanB ⟨b.lo, b.hi⟩ 1000000000000))
def shapeB (n : Nat) (ss : Nat → SV) (m : Nat) (bs : Nat → BM) : Bool := allUpto n (fun i => spanB (ss i) 1000) && (allUpto m (fun i => beamB n (bs i)) && (inB n 1 40 && decide (m ≤ 20)))
def prodN (ss : Nat → SV) : Nat → Int
 | 0 => 1
 | n + 1 => prodN ss n * ((ss n).hi - (ss n).lo + 1)
def longB (n : Nat) (ss : Nat → SV) (most : Int) : Bool := decide (most < prodN ss n)
def checkN (n : Nat) (ss : Nat → SV) (m : Nat) (bs : Nat → BM) : Int := if shapeB n ss m bs = false then 2 else if longB n ss 200000 = true then 3 else 0
theorem setB_at {n k : Nat} {cs : Nat → Int} (h : setB n k cs = true) {i : Nat} (hi : i < k) : 0 ≤ cs i ∧ cs i < (n : Int) := by
 have := allUpto_iff.1 h i hi
 simp only [setAt, Bool.and_eq_true, inB_iff] at this
 omega
theorem setB_step {n k : Nat} {cs : Nat → Int} (h : setB n k cs = true) {i : Nat} (hi : i + 1 < k) : cs i < cs (i + 1) := by
 have := allUpto_iff.1 h (i + 1) hi
 simp only [setAt, Bool.and_eq_true, Bool.or_eq_true, beq_iff_eq, decide_eq_true_eq] at this
 rcases this.2 with h | h
 ·omega
 ·exact h
theorem setB_lt {n k : Nat} {cs : Nat → Int} (h : setB n k cs = true) {i j : Nat} (hij : i < j) (hj : j < k) : cs i < cs j := by
 induction j with
 | zero => omega
 | succ j ih =>
  have hs := setB_step h hj
  by_cases e : i = j
  ·subst e; exact hs
  ·have := ih (by omega) (by omega); omega
theorem setB_ne {n k : Nat} {cs : Nat → Int} (h : setB n k cs = true) {i j : Nat} (hi : i < k) (hj : j < k) (e : cs i = cs j) : i = j := by
 by_cases h1 : i < j
 ·have := setB_lt h h1 hj; omega
 ·by_cases h2 : j < i
  ·have := setB_lt h h2 hi; omega
  ·omega
structure Shape (n : Nat) (ss : Nat → SV) (m : Nat) (bs : Nat → BM) : Prop where
 n1 : 1 ≤ n
 n40 : n ≤ 40
 m20 : m ≤ 20
 span : ∀ i, i < n → 0 ≤ (ss i).lo ∧ (ss i).lo ≤ (ss i).hi ∧ (ss i).hi ≤ 1000
 wn : ∀ i, i < m → (bs i).wn = (bs i).cn
 set : ∀ i, i < m → setB n (bs i).cn (bs i).cs = true
 weight : ∀ i, i < m → ∀ k, k < (bs i).cn → 1 ≤ (bs i).ws k ∧ (bs i).ws k ≤ 1000000
 bound : ∀ i, i < m → 0 ≤ (bs i).lo ∧ (bs i).lo ≤ (bs i).hi ∧ (bs i).hi ≤ 1000000000000
theorem shapeB_iff {n : Nat} {ss : Nat → SV} {m : Nat} {bs : Nat → BM} : shapeB n ss m bs = true ↔ Shape n ss m bs := by
 simp only [shapeB, beamB, spanB, Bool.and_eq_true, allUpto_iff, inB_iff, decide_eq_true_eq, beq_iff_eq]
 constructor
 ·rintro ⟨h1, h2, h3, h4⟩
  exact ⟨by omega, by omega, h4, fun i hi => ⟨(h1 i hi).1.1, (h1 i hi).1.2, (h1 i hi).2⟩, fun i hi => (h2 i hi).2.2.1, fun i hi => (h2 i hi).2.1, fun i hi k hk => (h2 i hi).1 k (by rw [(h2 i hi).2.2.1]; exact hk), fun i hi => ⟨(h2 i hi).2.2.2.1.1, (h2 i hi).2.2.2.1.2, (h2 i hi).2.2.2.2⟩⟩
 ·intro h
  exact ⟨fun i hi => ⟨⟨(h.span i hi).1, (h.span i hi).2.1⟩, (h.span i hi).2.2⟩, fun i hi => ⟨fun k hk => h.weight i hi k (by rw [← h.wn i hi]; exact hk), h.set i hi, h.wn i hi, ⟨(h.bound i hi).1, (h.bound i hi).2.1⟩, (h.bound i hi).2.2⟩, ⟨by have := h.n1; omega, by have := h.n40; omega⟩, h.m20⟩
theorem setB_len {n k : Nat} {cs : Nat → Int} (h : setB n k cs = true) : k ≤ n := by
 have key : ∀ j, j < k → (j : Int) ≤ cs j := by
  intro j
  induction j with
  | zero => intro hj; exact (setB_at h hj).1
  | succ j ih =>
   intro hj
   have := ih (by omega)
   have := setB_step h hj
   omega
 by_cases e : k = 0
 ·omega
 ·have := key (k - 1) (by omega)
  have := (setB_at h (i := k - 1) (by omega)).2
  omega
theorem prodN_pos {ss : Nat → SV} : ∀ n, (∀ i, i < n → (ss i).lo ≤ (ss i).hi) → 1 ≤ prodN ss n
 | 0, _ => by simp [prodN]
 | n + 1, h => by
  have h1 := prodN_pos n (fun i hi => h i (by omega))
  have h2 := h n (by omega)
  rw [prodN]
  have : 1 * 1 ≤ prodN ss n * ((ss n).hi - (ss n).lo + 1) := Int.mul_le_mul h1 (by omega) (by omega) (by omega)
  omega
theorem prodN_step {ss : Nat → SV} {n : Nat} (h : ∀ i, i < n + 1 → (ss i).lo ≤ (ss i).hi) : prodN ss n ≤ prodN ss (n + 1) := by
 have h1 := prodN_pos n (fun i hi => h i (by omega))
 have h2 := h n (by omega)
 rw [prodN]
 have : prodN ss n * 1 ≤ prodN ss n * ((ss n).hi - (ss n).lo + 1) := Int.mul_le_mul_of_nonneg_left (by omega) (by omega)
 omega
theorem prodN_le {ss : Nat → SV} {k n : Nat} (h : ∀ i, i < n → (ss i).lo ≤ (ss i).hi) (hk : k ≤ n) : prodN ss k ≤ prodN ss n := by
 induction n with
 | zero =>
  obtain rfl : k = 0 := by omega
  exact Int.le_refl _
 | succ n ih =>
  by_cases e : k = n + 1
  ·rw [e]; exact Int.le_refl _
  ·exact Int.le_trans (ih (fun i hi => h i (by omega)) (by omega)) (prodN_step h)
end Go.Proofs.YtgmpelhphnmknaaGreat
namespace Go.Proofs.YtgmpelhphnmknaaGreat
open Go.ChangeShapes Go.WideShapes Go.ChangeAt Go.RowKit Go.Deep Go.Joins
theorem choose_upto {α : Type} [Nonempty α] {n : Nat} {Q : Nat → α → Prop} (h : ∀ i, i < n → ∃ x, Q i x) : ∃ f : Nat → α, ∀ i, i < n → Q i (f i) :=
 ⟨fun i => Classical.epsilon (Q i), fun i hi => Classical.epsilon_spec (h i hi)⟩
theorem one_of_take {cs : List Value} {o c : Nat} {v : Value} (h : (cs.drop o).take c = [v]) : cs[o]? = some v := by
 have h0 : ((cs.drop o).take c)[0]? = some v := by rw [h]; rfl
 rw [List.getElem?_take] at h0
 split at h0
 ·simpa using h0
 ·simp at h0
section
variable {H : Type} {enc : TypeId × Value → H} {P : Program} {w : World} {base : Nat} {spare : Nat → Bool} {held : Bool}
theorem field_int {t : TypeId} {k : IntKind} {n o c : Nat} {cs : List Value} {y : Option (DataW H × List MemPlace)} {z : DataW H × List MemPlace} (ht : P.underlying t = some (.int k)) (h : DataW.trod enc P w base spare held n t ((cs.drop o).take c) = y) (hy : y = some z) : ∃ m, cs[o]? = some (.int k m) := by
 subst hy
 obtain ⟨m, hm, _⟩ := DataW.trod_int ht h
 exact ⟨m, one_of_take hm⟩
theorem add_at (b off k : Nat) : (⟨b, off, none⟩ : Addr).add k = ⟨b, off + k, none⟩ := by
 unfold Addr.add
 split
 ·rename_i h; subst h; rfl
 ·rfl
theorem rows_of {t e : TypeId} {fuel k : Nat} {cs : List Value} {o c : Nat} {y : Option (DataW H × List MemPlace)} {z : DataW H × List MemPlace} (ht : P.underlying t = some (.slice e)) (hk : P.cellsOf e = k) (hk0 : 0 < k) (h : DataW.trod enc P w base (fun _ => true) held fuel t ((cs.drop o).take c) = y) (hy : y = some z) :
  ∃ (a : Option Addr) (len cap : Nat), cs[o]? = some (.slice a len cap) ∧ len ≤ maxLen ∧ len ≤ cap ∧ cap ≤ maxLen ∧ (len = 0 ∨ ∃ b off, a = some ⟨b, off, none⟩ ∧ b < w.heap.size ∧ ∀ i, i < len → ∃ cs' n x, cs'.length = k ∧ (∀ j, j < k → w.cell? ⟨b, off + i * k + j, none⟩ = cs'[j]?) ∧ DataW.trod enc P w base (fun _ => true) held n e cs' = some x) := by
 subst hy
 rcases open_slice ht h with ⟨hcs, _⟩ | ⟨a, len, cap, m, n, D, Pl, hcs, hb, hl, hm, hmm, hx, hi⟩
 ·exact ⟨none, 0, 0, one_of_take hcs, by decide, by decide, by decide, .inl rfl⟩
 ·refine ⟨some a, len, cap, one_of_take hcs, by omega, hl, hm, ?_⟩
  by_cases h0 : len = 0
  ·exact .inl h0
  right
  simp only [if_true] at hmm
  obtain ⟨cs0, hc0, _⟩ := hi 0 (by omega)
  rw [hk] at hc0
  have hblk := World.cells?_block hc0 hk0
  obtain ⟨_, hl0, hat0⟩ := World.cells?_some hc0
  have hz := hat0 0 hk0
  rw [List.getElem?_eq_getElem (by omega)] at hz
  have hsp := World.cell?_spot hz
  obtain ⟨b, off, spot⟩ := a
  have hspot : spot = none := by simpa [Addr.add] using hsp
  subst hspot
  refine ⟨b, off, rfl, by simpa [Addr.add] using hblk, fun i hil => ?_⟩
  obtain ⟨cs', hc, ht'⟩ := hi i (by omega)
  rw [hk] at hc
  obtain ⟨_, hl', hat⟩ := World.cells?_some hc
  refine ⟨cs', n, _, hl', fun j hj => ?_, ht'⟩
  have := hat j hj
  rw [add_at, add_at] at this
  exact this
end
instance : Nonempty SV := ⟨⟨0, 0⟩⟩
instance : Nonempty BM := ⟨⟨none, 0, 0, none, 0, 0, 0, 0, fun _ => 0, fun _ => 0⟩⟩
section
variable {H : Type} {enc : TypeId × Value → H} {w : World} {base : Nat} {held : Bool}
theorem ints_of {n o c : Nat} {cs : List Value} {y : Option (DataW H × List MemPlace)} {z : DataW H × List MemPlace} (h : DataW.trod enc Tryz.prog w base (fun _ => true) held n 24 ((cs.drop o).take c) = y) (hy : y = some z) :
  ∃ (a : Option Addr) (len cap : Nat) (es : Nat → Int), cs[o]? = some (.slice a len cap) ∧ len ≤ maxLen ∧ Ints w.heap.size w a len es := by
 obtain ⟨a, len, cap, hcs, hl, _, _, hr⟩ := rows_of (k := 1) Tryz.underlying24 (by kernel_rfl) (by decide) h hy
 rcases hr with h0 | ⟨b, off, ha, hb, hi⟩
 ·exact ⟨a, len, cap, fun _ => 0, hcs, hl, .inl h0⟩
 ·obtain ⟨es, hes⟩ := choose_upto (α := Int) (n := len) (Q := fun i e => w.cell? ⟨b, off + i, none⟩ = some (.int .i64 e)) (fun i hil => by
   obtain ⟨cs', m, x, hl', hat, ht⟩ := hi i hil
   obtain ⟨e, he, _⟩ := DataW.trod_int Tryz.underlying3 ht
   have := hat 0 (by decide)
   rw [he] at this
   exact ⟨e, by simpa using this⟩)
  exact ⟨a, len, cap, es, hcs, hl, .inr ⟨b, off, ha, hb, hes⟩⟩
theorem spans_of {n o c : Nat} {cs : List Value} {y : Option (DataW H × List MemPlace)} {z : DataW H × List MemPlace} (h : DataW.trod enc Tryz.prog w base (fun _ => true) held n 25 ((cs.drop o).take c) = y) (hy : y = some z) :
  ∃ (a : Option Addr) (len cap : Nat) (ss : Nat → SV), cs[o]? = some (.slice a len cap) ∧ Spans w.heap.size w a len ss ∧ len ≤ cap ∧ cap ≤ maxLen := by
 obtain ⟨a, len, cap, hcs, hl, hlc, hcm, hr⟩ := rows_of (k := 2) Tryz.underlying25 (by kernel_rfl) (by decide) h hy
 rcases hr with h0 | ⟨b, off, ha, hb, hi⟩
 ·exact ⟨a, len, cap, fun _ => ⟨0, 0⟩, hcs, ⟨hl, .inl h0⟩, hlc, hcm⟩
 ·obtain ⟨ss, hss⟩ := choose_upto (α := SV) (n := len) (Q := fun i q => w.cell? ⟨b, off + i * 2, none⟩ = some (.int .i64 q.lo) ∧ w.cell? ⟨b, off + i * 2 + 1, none⟩ = some (.int .i64 q.hi)) (fun i hil => by
   obtain ⟨cs', m, x, hl', hat, ht⟩ := hi i hil
   obtain ⟨y0, y1, m', _, _, h0, h1⟩ := trod_struct2 Tryz.underlying28 ht
   obtain ⟨u, hu⟩ := field_int Tryz.underlying3 h0 rfl
   obtain ⟨v, hv⟩ := field_int Tryz.underlying3 h1 rfl
   exact ⟨⟨u, v⟩, (hat 0 (by decide)).trans hu, (hat 1 (by decide)).trans hv⟩)
  exact ⟨a, len, cap, ss, hcs, ⟨hl, .inr ⟨b, off, ha, hb, hss⟩⟩, hlc, hcm⟩
end
end Go.Proofs.YtgmpelhphnmknaaGreat
namespace Go.Proofs.YtgmpelhphnmknaaGreat
open Go.RowKit
structure VO where
 nx : Int
 ny : Int
 nz : Int
 size : Int
structure RY where
 x : Int
 y : Int
 z : Int
 dx : Int
 dy : Int
 dz : Int
def VO.val (v : VO) : Value := .agg #[.int .i64 v.nx, .int .i64 v.ny, .int .i64 v.nz, .int .i64 v.size]
def RY.val (r : RY) : Value := .agg #[.int .i64 r.x, .int .i64 r.y, .int .i64 r.z, .int .i64 r.dx, .int .i64 r.dy, .int .i64 r.dz]
def volB (v : VO) : Bool := (((inB v.nx 1 12 && inB v.ny 1 12) && inB v.nz 1 12) && decide (v.nx * v.ny * v.nz ≤ 600)) && inB v.size 1 1000
structure VO.Ok (v : VO) : Prop where
 x : 1 ≤ v.nx ∧ v.nx ≤ 12
 y : 1 ≤ v.ny ∧ v.ny ≤ 12
 z : 1 ≤ v.nz ∧ v.nz ≤ 12
 cells : v.nx * v.ny * v.nz ≤ 600
 size : 1 ≤ v.size ∧ v.size ≤ 1000
theorem volB_iff {v : VO} : volB v = true ↔ v.Ok := by
 unfold volB
 simp only [Bool.and_eq_true, inB_iff, decide_eq_true_eq]
 exact ⟨fun ⟨⟨⟨⟨h1, h2⟩, h3⟩, h4⟩, h5⟩ => ⟨h1, h2, h3, h4, h5⟩, fun h => ⟨⟨⟨⟨h.x, h.y⟩, h.z⟩, h.cells⟩, h.size⟩⟩
def rayB (r : RY) : Bool := ((inB r.x (-100000) 100000 && inB r.y (-100000) 100000) && inB r.z (-100000) 100000) && (((inB r.dx (-60) 60 && inB r.dy (-60) 60) && inB r.dz (-60) 60) && ((r.dx != 0 || r.dy != 0) || r.dz != 0))
structure RY.Ok (r : RY) : Prop where
 x : -100000 ≤ r.x ∧ r.x ≤ 100000
 y : -100000 ≤ r.y ∧ r.y ≤ 100000
 z : -100000 ≤ r.z ∧ r.z ≤ 100000
 dx : -60 ≤ r.dx ∧ r.dx ≤ 60
 dy : -60 ≤ r.dy ∧ r.dy ≤ 60
 dz : -60 ≤ r.dz ∧ r.dz ≤ 60
 turns : r.dx ≠ 0 ∨ r.dy ≠ 0 ∨ r.dz ≠ 0
theorem rayB_iff {r : RY} : rayB r = true ↔ r.Ok := by
 unfold rayB
 simp only [Bool.and_eq_true, inB_iff, Bool.or_eq_true, bne_iff_ne, ne_eq]
 exact ⟨fun ⟨⟨⟨h1, h2⟩, h3⟩, ⟨⟨h4, h5⟩, h6⟩, h7⟩ => ⟨h1, h2, h3, h4, h5, h6, by rcases h7 with (h | h) | h; exact .inl h; exact .inr (.inl h); exact .inr (.inr h)⟩, fun h => ⟨⟨⟨h.x, h.y⟩, h.z⟩, ⟨⟨h.dx, h.dy⟩, h.dz⟩, by rcases h.turns with h | h | h; exact .inl (.inl h); exact .inl (.inr h); exact .inr h⟩⟩
def tkS (out : Nat) (d : Int) : Nat := if d.natAbs = 0 then out else out / Nat.gcd out d.natAbs * d.natAbs
def tkN (r : RY) : Nat → Nat
 | 0 => 1
 | 1 => tkS 1 r.dx
 | 2 => tkS (tkS 1 r.dx) r.dy
 | _ => tkS (tkS (tkS 1 r.dx) r.dy) r.dz
def tkF (r : RY) : Nat := tkN r 3
theorem tkS_bound {out K : Nat} {d : Int} (h1 : 1 ≤ out) (hK : out ≤ K) (hd : -60 ≤ d ∧ d ≤ 60) : 1 ≤ tkS out d ∧ tkS out d ≤ K * 60 := by
 unfold tkS
 by_cases e : d.natAbs = 0
 ·rw [if_pos e]; omega
 ·rw [if_neg e]
  have h2 : 0 < out / Nat.gcd out d.natAbs := Nat.div_pos (Nat.le_of_dvd (by omega) (Nat.gcd_dvd_left _ _)) (Nat.gcd_pos_of_pos_left _ (by omega))
  have h3 : out / Nat.gcd out d.natAbs ≤ K := Nat.le_trans (Nat.div_le_self _ _) hK
  have h4 : d.natAbs ≤ 60 := by omega
  exact ⟨Nat.mul_pos h2 (by omega), Nat.mul_le_mul h3 h4⟩
theorem tkN_bound {r : RY} (h : r.Ok) : ∀ i, 1 ≤ tkN r i ∧ tkN r i ≤ 216000
 | 0 => by simp [tkN]
 | 1 => by have := tkS_bound (K := 1) (Nat.le_refl 1) (Nat.le_refl 1) h.dx; show 1 ≤ tkS 1 r.dx ∧ tkS 1 r.dx ≤ 216000; omega
 | 2 => by
  have h1 := tkS_bound (K := 1) (Nat.le_refl 1) (Nat.le_refl 1) h.dx
  have h2 := tkS_bound (K := 60) h1.1 (by omega) h.dy
  show 1 ≤ tkS (tkS 1 r.dx) r.dy ∧ tkS (tkS 1 r.dx) r.dy ≤ 216000
  omega
 | n + 3 => by
  have h1 := tkS_bound (K := 1) (Nat.le_refl 1) (Nat.le_refl 1) h.dx
  have h2 := tkS_bound (K := 60) h1.1 (by omega) h.dy
  have h3 := tkS_bound (K := 3600) h2.1 (by omega) h.dz
  show 1 ≤ tkS (tkS (tkS 1 r.dx) r.dy) r.dz ∧ tkS (tkS (tkS 1 r.dx) r.dy) r.dz ≤ 216000
  omega
theorem tkF_bound {r : RY} (h : r.Ok) : 1 ≤ tkF r ∧ tkF r ≤ 216000 := tkN_bound h 3
structure AX where
 b : Int
 t : Int
 c : Int
def axF (v : VO) (r : RY) : Nat → AX
 | 0 => ⟨r.x, r.dx, v.nx⟩
 | 1 => ⟨r.y, r.dy, v.ny⟩
 | _ => ⟨r.z, r.dz, v.nz⟩
def AX.val (a : AX) : Value := .agg #[.int .i64 a.b, .int .i64 a.t, .int .i64 a.c]
def wkVal (v : VO) (r : RY) : Value := .agg #[.int .i64 v.nx, .int .i64 v.ny, .int .i64 v.nz, .int .i64 v.size, .int .i64 r.x, .int .i64 r.dx, .int .i64 v.nx, .int .i64 r.y, .int .i64 r.dy, .int .i64 v.ny, .int .i64 r.z, .int .i64 r.dz, .int .i64 v.nz, .int .i64 (tkF r : Int)]
theorem ax_bound {v : VO} {r : RY} (hv : v.Ok) (hr : r.Ok) (i : Nat) : (-100000 ≤ (axF v r i).b ∧ (axF v r i).b ≤ 100000) ∧ (-60 ≤ (axF v r i).t ∧ (axF v r i).t ≤ 60) ∧ (1 ≤ (axF v r i).c ∧ (axF v r i).c ≤ 12) := by
 match i with
 | 0 => exact ⟨hr.x, hr.dx, hv.x⟩
 | 1 => exact ⟨hr.y, hr.dy, hv.y⟩
 | n + 2 => exact ⟨hr.z, hr.dz, hv.z⟩
def whF (T : Int) (a : AX) (p : Int) : Int := ((p - a.b) * T).tdiv a.t
theorem tdiv_abs (x y : Int) (K : Int) (h : -K ≤ x ∧ x ≤ K) : -K ≤ x.tdiv y ∧ x.tdiv y ≤ K := by
 have h1 : (x.tdiv y).natAbs ≤ x.natAbs := by rw [Int.natAbs_tdiv]; exact Nat.div_le_self _ _
 omega
theorem rk_mul_abs {x y K M : Int} (hK : 0 ≤ K) (hM : 0 ≤ M) (h : -K ≤ x ∧ x ≤ K) (h2 : -M ≤ y ∧ y ≤ M) : -(K * M) ≤ x * y ∧ x * y ≤ K * M := by
 have h3 : (x * y).natAbs ≤ K.natAbs * M.natAbs := by
  rw [Int.natAbs_mul]
  exact Nat.mul_le_mul (by omega) (by omega)
 have h4 : ((K.natAbs * M.natAbs : Nat) : Int) = K * M := by
  rw [Int.natCast_mul, Int.natAbs_of_nonneg hK, Int.natAbs_of_nonneg hM]
 omega
theorem wh_bound {T : Int} {a : AX} {p : Int} (hT : 1 ≤ T ∧ T ≤ 216000) (ha : -100000 ≤ a.b ∧ a.b ≤ 100000) (hp : -100000 ≤ p ∧ p ≤ 100000) : (-43200000000 ≤ (p - a.b) * T ∧ (p - a.b) * T ≤ 43200000000) ∧ (-43200000000 ≤ whF T a p ∧ whF T a p ≤ 43200000000) := by
 have h1 := rk_mul_abs (x := p - a.b) (y := T) (K := 200000) (M := 216000) (by decide) (by decide) (by omega) (by omega)
 have h2 : -43200000000 ≤ (p - a.b) * T ∧ (p - a.b) * T ≤ 43200000000 := by omega
 exact ⟨h2, tdiv_abs _ _ _ h2⟩
def stp (at_ best t : Int) : Int := if at_ < t ∧ (best < 0 ∨ t < best) then t else best
def nxK (f : Nat → Int) (at_ : Int) : Nat → Int → Int
 | 0, b => b
 | k + 1, b => stp at_ (nxK f at_ k b) (f k)
def nxA (v : VO) (r : RY) (at_ : Int) : Nat → Int
 | 0 => -1
 | i + 1 => if (axF v r i).t = 0 then nxA v r at_ i else nxK (fun k => whF (tkF r) (axF v r i) ((k : Int) * v.size)) at_ ((axF v r i).c.toNat + 1) (nxA v r at_ i)
def nxF (v : VO) (r : RY) (at_ : Int) : Int := nxA v r at_ 3
def NxOk (at_ b : Int) : Prop := b = -1 ∨ (at_ < b ∧ 0 ≤ b ∧ b ≤ 43200000000)
theorem stp_ok {at_ b t : Int} (h : NxOk at_ b) (h0 : -1 ≤ at_) (ht : t ≤ 43200000000) : NxOk at_ (stp at_ b t) := by
 unfold stp
 split
 ·rename_i h1; exact .inr ⟨h1.1, by omega, ht⟩
 ·exact h
theorem nxK_ok {f : Nat → Int} {at_ b : Int} (h0 : -1 ≤ at_) : ∀ k, NxOk at_ b → (∀ j, j < k → f j ≤ 43200000000) → NxOk at_ (nxK f at_ k b)
 | 0, h, _ => h
 | k + 1, h, hf => stp_ok (nxK_ok h0 k h (fun j hj => hf j (by omega))) h0 (hf k (by omega))
theorem place_bound {v : VO} {r : RY} (hv : v.Ok) (hr : r.Ok) (i k : Nat) (hk : k ≤ (axF v r i).c.toNat) : 0 ≤ (k : Int) * v.size ∧ (k : Int) * v.size ≤ 12000 := by
 have h1 := (ax_bound hv hr i).2.2
 have h2 := hv.size
 have h3 := rk_mul_abs (x := (k : Int)) (y := v.size) (K := 12) (M := 1000) (by decide) (by decide) (by omega) (by omega)
 exact ⟨Int.mul_nonneg (by omega) (by omega), by omega⟩
theorem wh_ax {v : VO} {r : RY} (hv : v.Ok) (hr : r.Ok) (i k : Nat) (hk : k ≤ (axF v r i).c.toNat) : whF (tkF r) (axF v r i) ((k : Int) * v.size) ≤ 43200000000 := by
 have h1 := place_bound hv hr i k hk
 have h2 := tkF_bound hr
 exact ((wh_bound (T := (tkF r : Int)) (a := axF v r i) (p := (k : Int) * v.size) (by omega) (ax_bound hv hr i).1 (by omega)).2).2
theorem nxA_ok {v : VO} {r : RY} (hv : v.Ok) (hr : r.Ok) {at_ : Int} (h0 : -1 ≤ at_) : ∀ i, NxOk at_ (nxA v r at_ i)
 | 0 => .inl rfl
 | i + 1 => by
  rw [nxA]
  split
  ·exact nxA_ok hv hr h0 i
  ·exact nxK_ok h0 _ (nxA_ok hv hr h0 i) (fun j hj => wh_ax hv hr i j (by omega))
theorem nxF_ok {v : VO} {r : RY} (hv : v.Ok) (hr : r.Ok) {at_ : Int} (h0 : -1 ≤ at_) : NxOk at_ (nxF v r at_) := nxA_ok hv hr h0 3
def atF (v : VO) (r : RY) : Nat → Int
 | 0 => 0
 | i + 1 => nxF v r (atF v r i)
theorem atF_low {v : VO} {r : RY} (hv : v.Ok) (hr : r.Ok) : ∀ i, -1 ≤ atF v r i ∧ atF v r i ≤ 43200000000
 | 0 => by simp [atF]
 | i + 1 => by
  have h1 := (atF_low hv hr i).1
  rcases nxF_ok hv hr h1 with h | h
  ·rw [atF, h]; omega
  ·rw [atF]; omega
theorem atF_up {v : VO} {r : RY} (hv : v.Ok) (hr : r.Ok) : ∀ i, (∀ j, j ≤ i → 0 ≤ atF v r j) → (i : Int) ≤ atF v r i
 | 0, _ => by simp [atF]
 | i + 1, h => by
  have h1 := atF_up hv hr i (fun j hj => h j (by omega))
  rcases nxF_ok hv hr (atF_low hv hr i).1 with h2 | h2
  ·have := h (i + 1) (Nat.le_refl _); rw [atF, h2] at this; omega
  ·rw [atF]; omega
def IsM (v : VO) (r : RY) (m : Nat) : Prop := (∀ j, j ≤ m → 0 ≤ atF v r j) ∧ nxF v r (atF v r m) < 0
theorem isM_eq {v : VO} {r : RY} {m m' : Nat} (h : IsM v r m) (h' : IsM v r m') : m = m' := by
 rcases Nat.lt_trichotomy m m' with e | e | e
 ·have := h'.1 (m + 1) (by omega); rw [atF] at this; have := h.2; omega
 ·exact e
 ·have := h.1 (m' + 1) (by omega); rw [atF] at this; have := h'.2; omega
def cAx (T S : Int) (a : AX) (p q : Int) : Int := if 2 * a.b * T + a.t * (p + q) < 0 then -1 else if a.c ≤ (2 * a.b * T + a.t * (p + q)).tdiv (2 * T * S) then -1 else (2 * a.b * T + a.t * (p + q)).tdiv (2 * T * S)
def cellF (v : VO) (r : RY) (p q : Int) : Int :=
 if cAx (tkF r) v.size (axF v r 0) p q < 0 ∨ cAx (tkF r) v.size (axF v r 1) p q < 0 ∨ cAx (tkF r) v.size (axF v r 2) p q < 0 then -1
 else (cAx (tkF r) v.size (axF v r 2) p q * v.ny + cAx (tkF r) v.size (axF v r 1) p q) * v.nx + cAx (tkF r) v.size (axF v r 0) p q
theorem cAx_bound {T S : Int} {a : AX} {p q : Int} (hT : 1 ≤ T) (hS : 1 ≤ S) (ha : 1 ≤ a.c) : -1 ≤ cAx T S a p q ∧ cAx T S a p q < a.c := by
 unfold cAx
 split
 ·omega
 ·split
  ·omega
  ·rename_i h1 h2
   have : 0 ≤ (2 * a.b * T + a.t * (p + q)).tdiv (2 * T * S) := Int.tdiv_nonneg (by omega) (Int.mul_nonneg (by omega) (by omega))
   omega
theorem index_bound {x y z nx ny nz : Int} (hx : 0 ≤ x ∧ x < nx) (hy : 0 ≤ y ∧ y < ny) (hz : 0 ≤ z ∧ z < nz) : 0 ≤ (z * ny + y) * nx + x ∧ (z * ny + y) * nx + x < nx * ny * nz := by
 have h1 : 0 ≤ z * ny := Int.mul_nonneg hz.1 (by omega)
 have h2 : z * ny + y + 1 ≤ ny * nz := by
  have h3 : (z + 1) * ny ≤ nz * ny := Int.mul_le_mul_of_nonneg_right (by omega) (by omega)
  rw [Int.add_mul, Int.one_mul] at h3
  rw [Int.mul_comm ny nz]
  omega
 have h4 : 0 ≤ (z * ny + y) * nx := Int.mul_nonneg (by omega) (by omega)
 have h5 : (z * ny + y + 1) * nx ≤ ny * nz * nx := Int.mul_le_mul_of_nonneg_right h2 (by omega)
 rw [Int.add_mul, Int.one_mul] at h5
 have h6 : ny * nz * nx = nx * ny * nz := by rw [Int.mul_comm (ny * nz) nx, Int.mul_assoc]
 omega
theorem cell_bound {v : VO} {r : RY} (hv : v.Ok) (hr : r.Ok) (p q : Int) : -1 ≤ cellF v r p q ∧ cellF v r p q < v.nx * v.ny * v.nz := by
 have hT := tkF_bound hr
 have h0 := cAx_bound (T := (tkF r : Int)) (S := v.size) (a := axF v r 0) (p := p) (q := q) (by omega) hv.size.1 hv.x.1
 have h1 := cAx_bound (T := (tkF r : Int)) (S := v.size) (a := axF v r 1) (p := p) (q := q) (by omega) hv.size.1 hv.y.1
 have h2 := cAx_bound (T := (tkF r : Int)) (S := v.size) (a := axF v r 2) (p := p) (q := q) (by omega) hv.size.1 hv.z.1
 have hn : 0 < v.nx * v.ny * v.nz := Int.mul_pos (Int.mul_pos (by have := hv.x; omega) (by have := hv.y; omega)) (by have := hv.z; omega)
 unfold cellF
 split
 ·omega
 ·rename_i h
  have := index_bound (x := cAx (tkF r) v.size (axF v r 0) p q) (y := cAx (tkF r) v.size (axF v r 1) p q) (z := cAx (tkF r) v.size (axF v r 2) p q) (nx := v.nx) (ny := v.ny) (nz := v.nz) ⟨by omega, h0.2⟩ ⟨by omega, h1.2⟩ ⟨by omega, h2.2⟩
  omega
structure PT where
 cell : Int
 lo : Int
 hi : Int
def PT.val (p : PT) : Value := .agg #[.int .i64 p.cell, .int .i64 p.lo, .int .i64 p.hi]
def cutF (v : VO) (r : RY) (g : Nat → Int) (p : PT) : PT :=
 if 0 < r.dz then ⟨p.cell, p.lo, min p.hi (whF (tkF r) (axF v r 2) (g (p.cell.tmod (v.nx * v.ny)).toNat))⟩
 else if r.dz < 0 then ⟨p.cell, max p.lo (whF (tkF r) (axF v r 2) (g (p.cell.tmod (v.nx * v.ny)).toNat)), p.hi⟩
 else if g (p.cell.tmod (v.nx * v.ny)).toNat ≤ r.z then ⟨p.cell, p.lo, p.lo⟩ else p
def oneF (v : VO) (r : RY) (g : Nat → Int) (p q : Int) : List PT :=
 if cellF v r p q < 0 then [] else if (cutF v r g ⟨cellF v r p q, p, q⟩).lo < (cutF v r g ⟨cellF v r p q, p, q⟩).hi then [cutF v r g ⟨cellF v r p q, p, q⟩] else []
def prN (v : VO) (r : RY) (g : Nat → Int) : Nat → List PT
 | 0 => []
 | 1 => []
 | k + 2 => prN v r g (k + 1) ++ oneF v r g (atF v r k) (atF v r (k + 1))
end Go.Proofs.YtgmpelhphnmknaaGreat
namespace Go.Proofs.YtgmpelhphnmknaaGreat
open Go.RowKit
theorem own_below {w w' : World} {base : Nat} {e : TypeId} {k : Nat} {v : Value} {n : Nat} {xs : List Value} (h : w.ownsRow base e k v n xs) (hb : Below w.heap.size w w') : w'.ownsRow base e k v n xs := by
 refine h.kept (row := none) ⟨hb.os, hb.tape, hb.output, hb.size, fun i hi _ => hb.block i hi⟩ ?_
 cases v.ownBlock <;> simp
theorem own_ne {w : World} {b1 b2 : Nat} {e1 e2 : TypeId} {k1 k2 : Nat} {v1 v2 : Value} {n1 n2 : Nat} {x1 x2 : List Value} (h1 : w.ownsRow b1 e1 k1 v1 n1 x1) (h2 : w.ownsRow b2 e2 k2 v2 n2 x2) (he : e1 ≠ e2) : v1.ownBlock = none ∨ v1.ownBlock ≠ v2.ownBlock := by
 rcases h1.2 with ⟨rfl, _⟩ | ⟨g, cap, cur, rfl, _, hg, _⟩
 ·exact .inl rfl
 ·right
  rcases h2.2 with ⟨rfl, _⟩ | ⟨g', cap', cur', rfl, _, hg', _⟩
  ·simp [Value.ownBlock]
  ·simp only [Value.ownBlock, ne_eq, Option.some.injEq]
   intro e
   subst e
   rw [hg] at hg'
   injection hg' with hg'
   injection hg' with _ h _
   exact he h
theorem own_base {w : World} {b1 b2 : Nat} {e : TypeId} {k : Nat} {v : Value} {n : Nat} {xs : List Value} (h : w.ownsRow b1 e k v n xs) (hb : b2 ≤ b1) : w.ownsRow b2 e k v n xs := by
 refine ⟨h.1, ?_⟩
 rcases h.2 with h | ⟨g, cap, cur, hv, hg, hr⟩
 ·exact .inl h
 ·exact .inr ⟨g, cap, cur, hv, by omega, hr⟩
theorem own_len {w : World} {base : Nat} {e : TypeId} {k : Nat} {v : Value} {n : Nat} {xs : List Value} (h : w.ownsRow base e k v n xs) : ∃ a c, v = .slice a n c := by
 rcases h.2 with ⟨rfl, rfl⟩ | ⟨g, cap, cur, rfl, _⟩
 ·exact ⟨none, 0, rfl⟩
 ·exact ⟨_, _, rfl⟩
theorem addr_add (b o j : Nat) : (⟨b, o, none⟩ : Addr).add j = ⟨b, o + j, none⟩ := by unfold Addr.add; split <;> simp_all
theorem cells_new {w : World} {t : TypeId} {xs : List Value} : ∀ j u, xs[j]? = some u → (w.alloc (.cells xs.toArray t)).cell? ((⟨w.heap.size, 0, none⟩ : Addr).add j) = some u := by
 intro j u h
 rw [addr_add, Nat.zero_add]
 exact (cell_of_row _ _ _ _ _ _ (heap_alloc_new _ _)).trans (by simpa using h)
end Go.Proofs.YtgmpelhphnmknaaGreat
