/- Texts put together: ImRange, RkE. -/
import Derived.RangeFuncNested
import Derived.RangeFuncBound
import Derived.RangeFuncCalls
import Derived.RangeFuncLeaves
import Derived.RangeFuncBox
import Derived.Shelf.Abstract
import Derived.Shelf.RegionOpen
import Derived.OwnWalkIn
import Derived.TacticsInMore
import Derived.LoopNIn
import Derived.LoopIn
import Derived.Test.YtgmpelhphnmknaaGreatQaa
import Derived.Test.YtgmpelhphnmknaaGreatQad
import Derived.Sort.CutIn
set_option maxRecDepth 100000
set_option maxHeartbeats 8000000
set_option linter.unusedVariables false
set_option linter.unusedSimpArgs false
namespace Go.Proofs.YtgmpelhphnmknaaGreat
open Go.RowKit
theorem round_any {m m' : Nat} {P : Program} {l : Nat} {f : FuncId} {tmps : Array Value} {assign body : Code} {w : World} {R : Ending → World → Prop}
  (h : RoundIn Fence.wide m P l f tmps assign body w R) : RoundIn Fence.wide m' P l f tmps assign body w R := ⟨h.1, fun c cs _ => h.2 c cs (room_wide _)⟩
theorem yield_any {m : Nat} (m' : Nat) {P : Program} {l : Nat} {args : Array Value} {W : World} {R : Ending → World → Prop} (h : YieldAt Fence.wide m P l args W R) : YieldAt Fence.wide m' P l args W R := by
 obtain ⟨fn, tmps, assign, body, hy, hR⟩ := h
 exact ⟨fn, tmps, assign, body, hy, round_any hR⟩
structure Turn (O : Nat → Prop) (W : World) (O' : Nat → Prop) (W' : World) : Prop where
 os : W'.os = W.os
 tape : W'.tape = W.tape
 output : W'.output = W.output
 size : W.heap.size ≤ W'.heap.size
 block : ∀ b, b < W.heap.size → ¬ O b → W'.heap[b]? = W.heap[b]?
 own : ∀ b, O' b ↔ O b ∨ (W.heap.size ≤ b ∧ b < W'.heap.size)
theorem Turn.refl (O : Nat → Prop) (W : World) : Turn O W O W := ⟨rfl, rfl, rfl, Nat.le_refl _, fun _ _ _ => rfl, fun b => ⟨.inl, fun h => h.elim id (fun h => by omega)⟩⟩
theorem Turn.trans {O O' O'' : Nat → Prop} {W W' W'' : World} (h : Turn O W O' W') (k : Turn O' W' O'' W'') : Turn O W O'' W'' :=
 ⟨k.os.trans h.os, k.tape.trans h.tape, k.output.trans h.output, Nat.le_trans h.size k.size, fun b hb ho => (k.block b (Nat.lt_of_lt_of_le hb h.size) (fun h2 => ((h.own b).1 h2).elim ho (fun h3 => by omega))).trans (h.block b hb ho), fun b => by
  rw [k.own, h.own]
  have := h.size; have := k.size
  constructor
  ·rintro ((h1 | h1) | h1)
   ·exact .inl h1
   ·exact .inr ⟨h1.1, by omega⟩
   ·exact .inr ⟨by omega, h1.2⟩
  ·rintro (h1 | h1)
   ·exact .inl (.inl h1)
   ·by_cases e : b < W'.heap.size
    ·exact .inl (.inr ⟨h1.1, e⟩)
    ·exact .inr ⟨by omega, h1.2⟩⟩
def ownAlso (O : Nat → Prop) (W W' : World) (b : Nat) : Prop := O b ∨ (W.heap.size ≤ b ∧ b < W'.heap.size)
theorem Turn.of {O : Nat → Prop} {W W' : World} (os : W'.os = W.os) (tape : W'.tape = W.tape) (output : W'.output = W.output) (size : W.heap.size ≤ W'.heap.size) (block : ∀ b, b < W.heap.size → ¬ O b → W'.heap[b]? = W.heap[b]?) : Turn O W (ownAlso O W W') W' :=
 ⟨os, tape, output, size, block, fun _ => Iff.rfl⟩
theorem Turn.below {O O' : Nat → Prop} {W W' : World} {B : Nat} (h : Turn O W O' W') (hB : B ≤ W.heap.size) (hO : ∀ b, O b → B ≤ b) : Below B W W' :=
 ⟨h.os, h.tape, h.output, h.size, fun k hk => h.block k (by omega) (fun h2 => by have := hO k h2; omega)⟩
theorem Turn.cell {O O' : Nat → Prop} {W W' : World} (h : Turn O W O' W') {b o : Nat} (hb : b < W.heap.size) (hO : ¬ O b) : W'.cell? ⟨b, o, none⟩ = W.cell? ⟨b, o, none⟩ := World.cell?_of_block (h.block b hb hO)
theorem Turn.frozen {O O' : Nat → Prop} {W W' : World} (h : Turn O W O' W') {b o : Nat} (hb : b < W.heap.size) (hO : ¬ O b) : W'.frozen? ⟨b, o, none⟩ = W.frozen? ⟨b, o, none⟩ := World.frozen?_of_block (h.block b hb hO)
theorem Turn.of_below {O : Nat → Prop} {W W' : World} (h : Below W.heap.size W W') : Turn O W (ownAlso O W W') W' := .of h.os h.tape h.output h.size (fun b hb _ => h.block b hb)
theorem Turn.drew (O : Nat → Prop) (W : World) : Turn O W O W.drew := ⟨rfl, rfl, rfl, Nat.le_refl _, fun _ _ _ => rfl, fun b => ⟨.inl, fun h => h.elim id (fun h => by have := h.1; have := h.2; simp at *; omega)⟩⟩
theorem Turn.setCell {O : Nat → Prop} {W : World} {b o : Nat} (hO : O b) (v : Value) : Turn O W O (W.setCell ⟨b, o, none⟩ v) :=
 ⟨rfl, rfl, rfl, by simp [World.setCell], fun k _ hk => Below.heap_setCell _ _ _ _ (fun e => hk (by rw [e]; exact hO)), fun k => ⟨.inl, fun h => h.elim id (fun h => by have := h.1; have := h.2; simp [World.setCell] at *; omega)⟩⟩
def Abide {β : Type} (J : β → (Nat → Prop) → World → Prop) : Prop := ∀ s O W O' W', J s O W → Turn O W O' W' → J s O' W'
structure Kept (O : Nat → Prop) (W W' : World) : Prop where
 size : W.heap.size ≤ W'.heap.size
 block : ∀ b, O b → W'.heap[b]? = W.heap[b]?
theorem Kept.refl (O : Nat → Prop) (W : World) : Kept O W W := ⟨Nat.le_refl _, fun _ _ => rfl⟩
theorem Kept.trans {O : Nat → Prop} {A B C : World} (h : Kept O A B) (k : Kept O B C) : Kept O A C := ⟨Nat.le_trans h.size k.size, fun b hb => (k.block b hb).trans (h.block b hb)⟩
theorem Kept.alloc {O : Nat → Prop} {A B : World} (h : Kept O A B) (hO : ∀ b, O b → b < A.heap.size) (o : Obj) : Kept O A (B.alloc o) :=
 ⟨by have := h.size; simp; omega, fun b hb => (Below.heap_alloc B o b (Nat.lt_of_lt_of_le (hO b hb) h.size)).trans (h.block b hb)⟩
theorem Kept.setCell {O : Nat → Prop} {A B : World} (h : Kept O A B) {b o : Nat} (hb : ¬ O b) (v : Value) : Kept O A (B.setCell ⟨b, o, none⟩ v) :=
 ⟨by have := h.size; simp [World.setCell]; omega, fun k hk => (Below.heap_setCell B ⟨b, o, none⟩ v k (fun e => hb (by rw [← show k = b from e]; exact hk))).trans (h.block k hk)⟩
theorem Kept.drew {O : Nat → Prop} {A B : World} (h : Kept O A B) : Kept O A B.drew := ⟨h.size, h.block⟩
theorem Kept.below {O : Nat → Prop} {A B C : World} (h : Kept O A B) (hO : ∀ b, O b → b < A.heap.size) (hb : Below B.heap.size B C) : Kept O A C :=
 ⟨Nat.le_trans h.size hb.size, fun b ho => (hb.block b (Nat.lt_of_lt_of_le (hO b ho) h.size)).trans (h.block b ho)⟩
theorem Kept.put {O : Nat → Prop} {A : World} {l : Nat} (o : Obj) (hl : ¬ O l) : Kept O A (A.putObj l o) := ⟨by simp, fun b hb => World.putObj_heap_other (fun e => hl (by rw [← e]; exact hb))⟩
theorem Kept.cell {O : Nat → Prop} {A B : World} (h : Kept O A B) {b o : Nat} (hb : O b) : B.cell? ⟨b, o, none⟩ = A.cell? ⟨b, o, none⟩ := World.cell?_of_block (h.block b hb)
theorem Kept.frozen {O : Nat → Prop} {A B : World} (h : Kept O A B) {b o : Nat} (hb : O b) : B.frozen? ⟨b, o, none⟩ = A.frozen? ⟨b, o, none⟩ := World.frozen?_of_block (h.block b hb)
def With (O R : Nat → Prop) (b : Nat) : Prop := O b ∨ R b
def SeqOwn {α : Type} (P : Program) (g : Nat) (lb : Array Value) (encs : α → Array Value) (R : Nat → Prop) (Sh : α → (Nat → Prop) → World → Prop) (Nx : List α → α → Prop) (S Sp : List α → Prop) (w : World) : Prop :=
 ∀ (l : Nat) (J Jx : List α → (Nat → Prop) → World → Prop) (W : World), Below w.heap.size w W → Abide J → Abide Jx →
  (∀ pre x O W1, J pre O W1 → Sh x O W1 → Nx pre x → ∀ m, YieldAt Fence.wide m P l (encs x) W1 fun e W' =>
   (e = .returned (.bool true) ∧ J (pre ++ [x]) O W' ∧ Kept (With O R) W1 W') ∨ (e = .returned (.bool false) ∧ Jx (pre ++ [x]) O W')) →
  J [] (fun _ => False) W →
  ∀ m, CallsIn Fence.wide m P g (#[.func (.yield l) #[] #[]] ++ lb) W fun e W' => (∃ v, e = .returned v) ∧ ((∃ xs O, S xs ∧ J xs O W') ∨ (∃ pre O, Sp pre ∧ Jx pre O W'))
def ownPostO {α : Type} (B : Nat) (R : Nat → Prop) (I : List α → (Nat → Prop) → World → Prop) (Ix : Code → List α → (Nat → Prop) → World → Prop) (xs : List α) (O : Nat → Prop) (W : World) : Exit → Act → World → Prop
 | .normal, _, W' => KeepsFrom B W W' ∧ Kept (With O R) W W' ∧ I xs O W'
 | .ret, _, W' => KeepsFrom B W W' ∧ Ix .ret xs O W'
 | .exit id, _, W' => KeepsFrom B W W' ∧ Ix (.exit id) xs O W'
 | .goto t, _, W' => KeepsFrom B W W' ∧ Ix (.goto t) xs O W'
 | .panic _, _, _ => False
 | .outgrown, _, _ => False
def Booked {β : Type} (B : Nat) (I : β → (Nat → Prop) → World → Prop) : Prop :=
 ∀ s O W l o o', I s O W → B ≤ l → W.heap[l]? = some o → o.isCells = false → I s O (W.putObj l o')
theorem wpIn_range_own {α : Type} {P : Program} {g : Operand} {ps : Array Tmp} {assign body : Code} {Q : Exit → Act → World → Prop} {a : Act} {w : World} {n : Nat}
  {gf : Nat} {lb : Array Value} (hg : a.eval g = .func (.func gf) #[] lb) (eg : ∀ args w, (callFunc gf args).run P w = .ok (.enter gf args) w)
  {encs : α → Array Value} {R : Nat → Prop} {Sh : α → (Nat → Prop) → World → Prop} {Nx : List α → α → Prop} {S Sp : List α → Prop} {w0 : World} (hseq : SeqOwn P gf lb encs R Sh Nx S Sp w0) (hR : ∀ b, R b → b < w.heap.size)
  (hb0 : Below w0.heap.size w0 w) (hps : ∀ x, (encs x).size = ps.size)
  (hSh : ∀ x O W l o', Sh x O W → ¬ O l → Sh x O (W.putObj l o'))
  (I : List α → (Nat → Prop) → World → Prop) (Ix : Code → List α → (Nat → Prop) → World → Prop) (hI : Abide I) (hIx : ∀ c, Abide (Ix c)) (hIb : Booked w.heap.size I) (hIxb : ∀ c, Booked w.heap.size (Ix c))
  (h0 : ∀ W, Below w.heap.size w W → I [] (fun _ => False) W) (Ax : α → Act → (Nat → Prop) → World → Prop) (hAx : ∀ x a' O W l o', Ax x a' O W → w.heap.size + 1 = l → Ax x a' O (W.putObj l o'))
  (hassign : ∀ (l : Nat) (pre : List α) (x : α) (O : Nat → Prop) (W : World) (K : Act → World → Prop), w.heap.size + 2 ≤ W.heap.size → (∀ b, O b → w.heap.size + 2 ≤ b ∧ b < W.heap.size) → I pre O W → Sh x O W → (∀ a' W', KeepsFrom w.heap.size W W' → Kept (With O R) W W' → I pre O W' → Ax x a' O W' → Sh x O W' → K a' W') →
   assign.wpIn (Fence.wide.inRound l) (n - 1 - 1) P (Exit.then K (fun _ _ _ => False)) { tmps := (ps.zip (encs x)).foldl (fun t (p, v) => t.setIfInBounds p v) a.tmps, defers := [] } W)
  (hbody : ∀ (l : Nat) (pre : List α) (x : α) (a' : Act) (O : Nat → Prop) (W : World), w.heap.size ≤ l → w.heap.size + 2 ≤ W.heap.size → (∀ b, O b → w.heap.size + 2 ≤ b ∧ b < W.heap.size) → I pre O W → Ax x a' O W → Sh x O W → Nx pre x → body.wpIn (Fence.wide.inRound l) (n - 1 - 1) P (ownPostO w.heap.size R I Ix (pre ++ [x]) O W) a' W)
  (hdone : ∀ (D : Nat) (xs : List α) (O : Nat → Prop) (W : World), w.heap.size ≤ D → ¬ O D → S xs → I xs O W → W.heap[D]? = some (.deferred (some [])) → Q .normal { a with defers := { target := .collected D, args := #[] } :: a.defers } W)
  (hstop : ∀ (D : Nat) (c : Code) (pre : List α) (O : Nat → Prop) (W : World), w.heap.size ≤ D → ¬ O D → Sp pre → Ix c pre O W → W.heap[D]? = some (.deferred (some [])) → c.wpIn Fence.wide n P Q { a with defers := { target := .collected D, args := #[] } :: a.defers } W) :
  (Code.rangeFunc g ps assign body).wpIn Fence.wide n P Q a w := by
 refine wpIn_rangeFunc ?_
 intro fn hfn
 rw [show Fence.wide.round = none from rfl]
 obtain ⟨rec, hrec⟩ : ∃ rec : LoopState → Option Code → Loop, rec = fun st pe => { state := st, pending := pe, fn, tmps := a.tmps, params := ps, assign, body, defers := w.heap.size } := ⟨_, rfl⟩
 obtain ⟨W1, hW1⟩ : ∃ W1, (w.alloc (.deferred (some []))).alloc (.loop (rec .ready none)) = W1 := ⟨_, rfl⟩
 have hL1 : W1.heap[w.heap.size + 1]? = some (.loop (rec .ready none)) := by
  rw [← hW1]; have := World.alloc_heap_new (w.alloc (.deferred (some []))) (.loop (rec .ready none)); rwa [World.size_alloc] at this
 have hK1 : W1.heap[w.heap.size]? = some (.deferred (some [])) := by
  rw [← hW1]; exact (Below.heap_alloc _ _ _ (by simp)).trans (World.alloc_heap_new w _)
 have hbw : Below w.heap.size w W1 := by rw [← hW1]; exact ((Below.refl _ w).alloc (Nat.le_refl _) _).alloc (by simp) _
 have hb1 : Below w0.heap.size w0 W1 := hb0.trans (hbw.mono hb0.size)
 have hsz : W1.heap.size = w.heap.size + 2 := by rw [← hW1]; simp
 refine ⟨w.heap.size + 1, [{ target := .collected w.heap.size, args := #[] }], W1, { target := .fn (.func gf) lb, args := #[.func (.yield (w.heap.size + 1)) #[] #[]] }, W1, gf,
  #[.func (.yield (w.heap.size + 1)) #[] #[]] ++ lb, W1, ?_, ?_, fun _ _ => trivial, ?_, fun h => by simp [Fence.wide] at h, ?_⟩
 ·rw [← hW1, hrec]; exact run_enterLoop_outer _ _ _ _ _
 ·simp only [resolve, hg]
  simp [go_sem]
 ·simp [invoke, go_sem, eg]
 ·-- the iterator's blocks lie behind the two of the loop
  have far : ∀ {O : Nat → Prop} {W : World} {O' : Nat → Prop} {W' : World}, (∀ b, O b → w.heap.size + 2 ≤ b ∧ b < W.heap.size) ∧ w.heap.size + 2 ≤ W.heap.size → Turn O W O' W' → (∀ b, O' b → w.heap.size + 2 ≤ b ∧ b < W'.heap.size) ∧ w.heap.size + 2 ≤ W'.heap.size := fun {O W O' W'} h ht =>
   ⟨fun b hb => by
    have := ht.size
    rcases (ht.own b).1 hb with h1 | h1
    ·have := h.1 b h1; omega
    ·omega, by have := ht.size; omega⟩
  refine (hseq (w.heap.size + 1)
   (fun pre O W => I pre O W ∧ W.heap[w.heap.size + 1]? = some (.loop (rec .ready none)) ∧ W.heap[w.heap.size]? = some (.deferred (some [])) ∧ (∀ b, O b → w.heap.size + 2 ≤ b ∧ b < W.heap.size) ∧ w.heap.size + 2 ≤ W.heap.size)
   (fun pre O W => ∃ c, Ix c pre O W ∧ W.heap[w.heap.size + 1]? = some (.loop (rec .done (some c))) ∧ W.heap[w.heap.size]? = some (.deferred (some [])) ∧ (∀ b, O b → w.heap.size + 2 ≤ b ∧ b < W.heap.size) ∧ w.heap.size + 2 ≤ W.heap.size)
   W1 hb1
   (fun s O A O' A' hs ht => ⟨hI s O A O' A' hs.1 ht, (ht.block _ (by have := hs.2.2.2.2; omega) (fun h => by have := (hs.2.2.2.1 _ h).1; omega)).trans hs.2.1, (ht.block _ (by have := hs.2.2.2.2; omega) (fun h => by have := (hs.2.2.2.1 _ h).1; omega)).trans hs.2.2.1, far hs.2.2.2 ht⟩)
   (fun s O A O' A' hs ht => by
    obtain ⟨c, hc, hl, hk, hf⟩ := hs
    exact ⟨c, hIx c s O A O' A' hc ht, (ht.block _ (by have := hf.2; omega) (fun h => by have := (hf.1 _ h).1; omega)).trans hl, (ht.block _ (by have := hf.2; omega) (fun h => by have := (hf.1 _ h).1; omega)).trans hk, far hf ht⟩)
   ?_ ⟨h0 W1 hbw, hL1, hK1, fun b hb => hb.elim, by omega⟩ (n - 1)).mono ?_
  ·-- one round
   rintro pre x O W ⟨hi, hl, hk, hfar, hws⟩ hsh hnx m
   refine yield_any (m := n - 1 - 1) m ?_
   have hy := run_yield (P := P) (args := encs x) hl (by rw [hrec]; exact hps x)
   rw [hrec] at hy
   refine ⟨fn, _, assign, body, hy, roundIn_of_wpIn hfn (hassign _ pre x O W _ hws hfar hi hsh ?_)⟩
   clear hy
   intro a' Wa hkfa hkpa hia hax hsha
   have hla := hkfa.same _ _ (by omega) hl rfl
   have hka := hkfa.same _ _ (Nat.le_refl _) hk rfl
   have hzs := hkfa.size
   have hno : ¬ O (w.heap.size + 1) := fun h => by have := (hfar _ h).1; omega
   have hnw : ¬ With O R (w.heap.size + 1) := fun h => h.elim hno (fun h2 => by have := hR _ h2; omega)
   have hlt : w.heap.size + 1 < Wa.heap.size := by omega
   refine ⟨_, run_beginRound hla (by rw [hrec]), ?_⟩
   have hl2 : (Wa.putObj (w.heap.size + 1) (.loop { rec .ready none with state := .busy })).heap[w.heap.size + 1]? = some (.loop { rec .ready none with state := .busy }) := World.putObj_heap_same hlt
   have hk2 : (Wa.putObj (w.heap.size + 1) (.loop { rec .ready none with state := .busy })).heap[w.heap.size]? = some (.deferred (some [])) := (World.putObj_heap_other (by omega)).trans hka
   refine wpIn_mono (hbody _ pre x a' O _ (by omega) (by simp; omega) (fun b hb => by have := hfar b hb; simp; omega) (hIb _ _ _ _ _ _ hia (by omega) hla rfl) (hAx _ _ _ _ _ _ hax rfl) (hSh _ _ _ _ _ hsha hno) hnx) ?_
   have fin : ∀ (jump : Option Code) (W3 : World), KeepsFrom w.heap.size (Wa.putObj (w.heap.size + 1) (.loop { rec .ready none with state := .busy })) W3 →
     (Instr.endRound (w.heap.size + 1) jump).run P W3 = .ok (.bool jump.isNone) (W3.putObj (w.heap.size + 1) (.loop (rec (if jump.isNone then .ready else .done) jump))) ∧
     W3.heap[w.heap.size + 1]? = some (.loop { rec .ready none with state := .busy }) ∧
     (W3.putObj (w.heap.size + 1) (.loop (rec (if jump.isNone then .ready else .done) jump))).heap[w.heap.size + 1]? = some (.loop (rec (if jump.isNone then .ready else .done) jump)) ∧
     (W3.putObj (w.heap.size + 1) (.loop (rec (if jump.isNone then .ready else .done) jump))).heap[w.heap.size]? = some (.deferred (some [])) ∧
     ((∀ b, O b → w.heap.size + 2 ≤ b ∧ b < (W3.putObj (w.heap.size + 1) (.loop (rec (if jump.isNone then .ready else .done) jump))).heap.size) ∧ w.heap.size + 2 ≤ (W3.putObj (w.heap.size + 1) (.loop (rec (if jump.isNone then .ready else .done) jump))).heap.size) := fun jump W3 hk3 => by
    have hl3 := hk3.same _ _ (by omega) hl2 rfl
    have hz3 := hk3.size
    have := run_endRound (P := P) jump hl3
    rw [hrec] at this ⊢
    exact ⟨this, by rw [hrec] at hl3; exact hl3, World.putObj_heap_same (blkL hl3), (World.putObj_heap_other (by omega)).trans (hk3.same _ _ (Nat.le_refl _) hk2 rfl), fun b hb => by have := hfar b hb; simp at *; omega, by simp at *; omega⟩
   rintro e a3 W3 hp
   cases e with
   | normal =>
    obtain ⟨hk3, hkp3, hi3⟩ := hp
    obtain ⟨hr, hl3, hl4, hk4, hf4⟩ := fin none W3 hk3
    exact ⟨_, _, hr, .inl ⟨rfl, ⟨hIb _ _ _ _ _ _ hi3 (by omega) hl3 rfl, hl4, hk4, hf4⟩, hkpa.trans ((Kept.put _ hnw).trans (hkp3.trans (Kept.put _ hnw)))⟩⟩
   | ret =>
    obtain ⟨hk3, hi3⟩ := hp
    obtain ⟨hr, hl3, hl4, hk4, hf4⟩ := fin (some .ret) W3 hk3
    exact ⟨_, _, hr, .inr ⟨rfl, .ret, hIxb _ _ _ _ _ _ _ hi3 (by omega) hl3 rfl, hl4, hk4, hf4⟩⟩
   | exit id =>
    obtain ⟨hk3, hi3⟩ := hp
    obtain ⟨hr, hl3, hl4, hk4, hf4⟩ := fin (some (.exit id)) W3 hk3
    exact ⟨_, _, hr, .inr ⟨rfl, .exit id, hIxb _ _ _ _ _ _ _ hi3 (by omega) hl3 rfl, hl4, hk4, hf4⟩⟩
   | goto t =>
    obtain ⟨hk3, hi3⟩ := hp
    obtain ⟨hr, hl3, hl4, hk4, hf4⟩ := fin (some (.goto t)) W3 hk3
    exact ⟨_, _, hr, .inr ⟨rfl, .goto t, hIxb _ _ _ _ _ _ _ hi3 (by omega) hl3 rfl, hl4, hk4, hf4⟩⟩
   | panic ch => exact hp.elim
   | outgrown => exact hp.elim
  ·-- behind the iterator
   rintro e W2 ⟨⟨v, rfl⟩, (⟨xs, O, hS, hi, hl, hk, hf⟩ | ⟨pre, O, hSp, c, hi, hl, hk, hf⟩)⟩
   ·exact ⟨none, _, by have := run_endLoop (P := P) hl (by rw [hrec]; simp); rw [hrec] at this; exact this, hdone _ xs O _ (Nat.le_refl _) (fun h => by have := (hf.1 _ h).1; omega) hS (hIb _ _ _ _ _ _ hi (by omega) hl rfl) ((World.putObj_heap_other (by omega)).trans hk)⟩
   ·exact ⟨some c, _, by have := run_endLoop (P := P) hl (by rw [hrec]; simp); rw [hrec] at this; exact this, hstop _ c pre O _ (Nat.le_refl _) (fun h => by have := (hf.1 _ h).1; omega) hSp (hIxb _ _ _ _ _ _ _ hi (by omega) hl rfl) ((World.putObj_heap_other (by omega)).trans hk)⟩
end Go.Proofs.YtgmpelhphnmknaaGreat
namespace Go.Proofs.YtgmpelhphnmknaaGreat
open Go.RowKit Go.Shelf
attribute [local go_sem] Oper.semAt_some
def WkAt (v : VO) (r : RY) (q : Nat) (W : World) : Prop := W.heap[q]? = some (.cells #[.int .i64 v.nx, .int .i64 v.ny, .int .i64 v.nz, .int .i64 v.size, .int .i64 r.x, .int .i64 r.dx, .int .i64 v.nx, .int .i64 r.y, .int .i64 r.dy, .int .i64 v.ny, .int .i64 r.z, .int .i64 r.dz, .int .i64 v.nz, .int .i64 (tkF r : Int)] 150)
theorem WkAt.lt {v : VO} {r : RY} {q : Nat} {W : World} (h : WkAt v r q W) : q < W.heap.size := (blkL h)
theorem WkAt.step {v : VO} {r : RY} {q : Nat} {W W' : World} (h : WkAt v r q W) (hb : Below W.heap.size W W') : WkAt v r q W' := (hb.block _ h.lt).trans h
theorem crossings_any (v : VO) (r : RY) (w : World) :
  Calls Tryz.prog 134 #[wkVal v r] w fun e w' => e = .returned (.func (.func 182) #[] #[.pointer (some ⟨w.heap.size, 0, none⟩)]) ∧ WkAt v r w.heap.size w' ∧ Below w.heap.size w w' := by
 unfold wkVal
 go_enter Tryz.func134, Tryz.ntmps134
 go_wp2
 go_ret
 exact ⟨rfl, heap_alloc_new w _, rk_below w _⟩
def enX (v : VO) (r : RY) (i : Nat) : Array Value := #[.int .i64 (atF v r i)]
theorem cross_seq (v : VO) (r : RY) (hv : v.Ok) (hr : r.Ok) (q : Nat) (w : World) (hq : WkAt v r q w) :
  SeqOwn Tryz.prog 182 #[.pointer (some ⟨q, 0, none⟩)] (enX v r) (fun b => b = q) (fun _ _ _ => True) (fun pre x => pre = List.range x ∧ ∀ j, j ≤ x → 0 ≤ atF v r j) (fun xs => ∃ m, IsM v r m ∧ xs = List.range (m + 1)) (fun pre => ∃ k, pre = List.range k) w := by
 intro l J Jx W hW hJ hJx hY h0 N
 have HV := Lib.hid hv
 have HR := Lib.hid hr
 have HJ := Lib.hid hJ
 have HY := Lib.hid hY
 have hQW := hq.step hW
 clear hY hJ hJx hv hr
 refine callsIn_of_wp Tryz.func182 rfl trivial ?_ rfl
 simp only [Tryz.ntmps182, List.size_toArray, List.length_cons, List.length_nil, Nat.reduceAdd, Nat.reduceSub, Array.replicate_succ, Array.replicate_zero, List.push_toArray, List.append_toArray, List.nil_append, List.cons_append]
 gi_wp2
 gi_loopw [3] (fun s3 wr => ∃ (i : Nat) (O : Nat → Prop), s3 = .int .i64 (atF v r i) ∧ Hid ((∀ j, j ≤ i → 0 ≤ atF v r j) ∧ J (List.range i) O wr ∧ WkAt v r q wr)) (fun s3 _ => (43200000001 - intOf s3).toNat)
 case atStart => exact ⟨0, _, rfl, Lib.hid ⟨fun j hj => by rw [show j = 0 by omega]; exact Int.le_refl 0, h0, hQW⟩⟩
 case round =>
  clear h0 hQW
  obtain ⟨i, O, rfl, HX⟩ := hrel
  obtain ⟨hge, hj, hqw⟩ := HX.out
  have HGE := Lib.hid hge
  have HQ1 := Lib.hid hqw
  obtain ⟨hlo, hhi⟩ := atF_low HV.out HR.out i
  obtain ⟨fn, tmps, assign, body, hy, hR⟩ := HY.out _ i O wr hj trivial ⟨rfl, hge⟩ (N - 1)
  unfold enX at hy
  clear HX hge hj hqw HY
  gi_wp2
  refine ⟨fun h => (by cases h), hR.mono ?_⟩
  rintro e W3 (⟨rfl, hj3, hk3⟩ | ⟨rfl, hjx3⟩)
  ·have HQ := Hd (show WkAt v r q W3 from (hk3.block q (.inr rfl)).trans HQ1.out)
   have HJ3 := Lib.hid hj3
   clear hR hy hj3 hk3 HQ1
   generalize hat : atF v r i = at_ at *
   have HAT := Lib.hid hat
   clear hat
   obtain ⟨c0, c1, c2, c3, c4, c5, c6, c7, c8, c9, c10, c11, c12, c13⟩ := cr14 HQ.out
   gi_wp2
   clear c0 c1 c2 c3 c4 c5 c6 c7 c8 c9 c10 c11 c12 c13
   gi_loopw [4, 14] (fun s4 s14 wx => ∃ a : Nat, a ≤ 3 ∧ s14 = .int .i64 (a : Int) ∧ s4 = .int .i64 (nxA v r at_ a) ∧ Hid (Below W3.heap.size W3 wx)) (fun _ s14 _ => 3 - (intOf s14).toNat)
   case atStart => exact ⟨0, by omega, rfl, rfl, Hd (Below.refl _ _)⟩
   case round =>
    obtain ⟨a, ha, rfl, rfl, HB⟩ := hrel
    by_cases hlt : a < 3
    ·have hlt' : (a : Int) < 3 := by omega
     have hix := ix_axes v r hlt
     obtain ⟨⟨g1, g2⟩, ⟨g3, g4⟩, g5, g6⟩ := ax_bound HV.out HR.out a
     have HWH := Hd (fun (W : World) (p : Int) (ht : (axF v r a).t ≠ 0) (hp : -100000 ≤ p ∧ p ≤ 100000) => when_any v r (axF v r a) p W HR.out ht ⟨g1, g2⟩ hp)
     have HNX := Hd (show nxA v r at_ (a + 1) = if (axF v r a).t = 0 then nxA v r at_ a else nxK (fun k => whF (tkF r) (axF v r a) ((k : Int) * v.size)) at_ ((axF v r a).c.toNat + 1) (nxA v r at_ a) from rfl)
     have HPB := Hd (fun (k : Nat) (hk : k ≤ (axF v r a).c.toNat) => place_bound HV.out HR.out a k hk)
     have HQx := Hd (HQ.out.step HB.out)
     unfold AX.val at hix HWH
     unfold wkVal at HWH
     by_cases ht0 : (axF v r a).t = 0
     ·rw [if_pos ht0] at HNX
      generalize (axF v r a).b = ab at *
      generalize (axF v r a).t = at2 at *
      generalize (axF v r a).c = ac at *
      subst ht0
      have HB2 := Hd (HB.out.trans ((rk_below wr (.cells #[.int .i64 ab, .int .i64 0, .int .i64 ac] 147)).mono HB.out.size))
      gi_wp2
      go_roundw
      case rel => first | exact ⟨a + 1, by omega, by go_num, by rw [HNX.out], HB2⟩ | ((repeat apply Exists.intro); exact ⟨⟨a + 1, by omega, by go_num, by rw [HNX.out], HB2⟩, rfl⟩)
      case measure => simp [intOf]; omega
     ·rw [if_neg ht0] at HNX
      gi_upto_region 6 with (fail)
      have hb1 := rk_below wr (.cells #[.int .i64 (axF v r a).b, .int .i64 (axF v r a).t, .int .i64 (axF v r a).c] 147)
      have hn1 := heap_alloc_new wr (.cells #[.int .i64 (axF v r a).b, .int .i64 (axF v r a).t, .int .i64 (axF v r a).c] 147)
      have HB1 := Hd (HB.out.trans (hb1.mono HB.out.size))
      have HQ1 := Hd (HQx.out.step hb1)
      have HAX := Lib.hid hn1
      clear HB HQx hb1 hn1 hix
      generalize World.alloc wr _ = V1 at *
      generalize wr.heap.size = xb at *
      obtain ⟨ab, hab⟩ : ∃ b, (axF v r a).b = b := ⟨_, rfl⟩
      obtain ⟨at2, hat2⟩ : ∃ b, (axF v r a).t = b := ⟨_, rfl⟩
      obtain ⟨ac, hac⟩ : ∃ b, (axF v r a).c = b := ⟨_, rfl⟩
      rw [hab, hat2, hac] at HAX HWH
      rw [hac] at g5 g6 HNX HPB
      rw [hat2] at ht0
      rw [hab, hat2, hac]
      have x1 := cell_of_row _ _ 1 _ _ _ HAX.out
      have x2 := cell_of_row _ _ 2 _ _ _ HAX.out
      have ht0b : (at2 == 0) = false := beq_eq_false_iff_ne.2 ht0
      have hC : ((ac.toNat : Nat) : Int) = ac := by omega
      have hcl : ac.toNat ≤ 12 := by omega
      have HPC := Lib.hid hC
      generalize ac.toNat = C at *
      subst hC
      gi_wp2
      clear x1 x2
      gi_loopw [4, 23] (fun s4 s23 wy => ∃ k : Nat, k ≤ C + 1 ∧ s23 = .int .i64 (k : Int) ∧ s4 = .int .i64 (nxK (fun k => whF (tkF r) (axF v r a) ((k : Int) * v.size)) at_ k (nxA v r at_ a)) ∧ Hid (Below V1.heap.size V1 wy)) (fun _ s23 _ => C + 1 - (intOf s23).toNat)
      case atStart => exact ⟨0, by omega, rfl, rfl, Hd (Below.refl _ _)⟩
      case round =>
       obtain ⟨k, hk, rfl, rfl, HB⟩ := hrel
       by_cases hkc : k < C + 1
       ·have hkc' : (k : Int) < (C : Int) + 1 := by omega
        obtain ⟨hp1, hp2⟩ := HPB.out k (by omega)
        have HWK := Hd (fun (W : World) => HWH.out W ((k : Int) * v.size) ht0 (by omega))
        have HST := Hd (show nxK (fun k => whF (tkF r) (axF v r a) ((k : Int) * v.size)) at_ (k + 1) (nxA v r at_ a) = if at_ < whF (tkF r) (axF v r a) ((k : Int) * v.size) ∧ (nxK (fun k => whF (tkF r) (axF v r a) ((k : Int) * v.size)) at_ k (nxA v r at_ a) < 0 ∨ whF (tkF r) (axF v r a) ((k : Int) * v.size) < nxK (fun k => whF (tkF r) (axF v r a) ((k : Int) * v.size)) at_ k (nxA v r at_ a)) then whF (tkF r) (axF v r a) ((k : Int) * v.size) else nxK (fun k => whF (tkF r) (axF v r a) ((k : Int) * v.size)) at_ k (nxA v r at_ a) from rfl)
        generalize nxK (fun k => whF (tkF r) (axF v r a) ((k : Int) * v.size)) at_ k (nxA v r at_ a) = nb at *
        generalize whF (tkF r) (axF v r a) ((k : Int) * v.size) = tt at *
        generalize hks : (k : Int) * v.size = ks at *
        have HQ2 := HQ1
        have HQ := Hd (HQ1.out.step HB.out)
        have hax := (HB.out.block _ (blkL HAX.out)).trans HAX.out
        obtain ⟨x0, x1, x2⟩ := cr3 hax
        obtain ⟨c0, c1, c2, c3, c4, c5, c6, c7, c8, c9, c10, c11, c12, c13⟩ := cr14 HQ.out
        clear hax HWH HPB HNX
        by_cases h1 : at_ < tt
        ·by_cases h2 : nb < 0
         ·have HS := Hd (HST.out.trans (if_pos ⟨h1, .inl h2⟩))
          clear HST
          (gi_wp2_with (refine ⟨trivial, fun h => (by cases h), ?_⟩; with_reducible refine (callsIn_wide.2 (HWK.out _)).mono ?_; rintro e w' ⟨rfl, hb⟩); have HB2 := Hd (HB.out.trans (hb.mono HB.out.size)); go_roundw; (case rel => first | exact ⟨k + 1, by omega, by go_num, by rw [HS.out], HB2⟩ | ((repeat apply Exists.intro); exact ⟨⟨k + 1, by omega, by go_num, by rw [HS.out], HB2⟩, rfl⟩)); (case measure => (simp [intOf]; omega)))
         ·by_cases h3 : tt < nb
          ·have HS := Hd (HST.out.trans (if_pos ⟨h1, .inr h3⟩))
           clear HST
           (gi_wp2_with (refine ⟨trivial, fun h => (by cases h), ?_⟩; with_reducible refine (callsIn_wide.2 (HWK.out _)).mono ?_; rintro e w' ⟨rfl, hb⟩); have HB2 := Hd (HB.out.trans (hb.mono HB.out.size)); go_roundw; (case rel => first | exact ⟨k + 1, by omega, by go_num, by rw [HS.out], HB2⟩ | ((repeat apply Exists.intro); exact ⟨⟨k + 1, by omega, by go_num, by rw [HS.out], HB2⟩, rfl⟩)); (case measure => (simp [intOf]; omega)))
          ·have HS := Hd (HST.out.trans (if_neg (by omega)))
           clear HST
           (gi_wp2_with (refine ⟨trivial, fun h => (by cases h), ?_⟩; with_reducible refine (callsIn_wide.2 (HWK.out _)).mono ?_; rintro e w' ⟨rfl, hb⟩); have HB2 := Hd (HB.out.trans (hb.mono HB.out.size)); go_roundw; (case rel => first | exact ⟨k + 1, by omega, by go_num, by rw [HS.out], HB2⟩ | ((repeat apply Exists.intro); exact ⟨⟨k + 1, by omega, by go_num, by rw [HS.out], HB2⟩, rfl⟩)); (case measure => (simp [intOf]; omega)))
        ·have HS := Hd (HST.out.trans (if_neg (by omega)))
         clear HST
         (gi_wp2_with (refine ⟨trivial, fun h => (by cases h), ?_⟩; with_reducible refine (callsIn_wide.2 (HWK.out _)).mono ?_; rintro e w' ⟨rfl, hb⟩); have HB2 := Hd (HB.out.trans (hb.mono HB.out.size)); go_roundw; (case rel => first | exact ⟨k + 1, by omega, by go_num, by rw [HS.out], HB2⟩ | ((repeat apply Exists.intro); exact ⟨⟨k + 1, by omega, by go_num, by rw [HS.out], HB2⟩, rfl⟩)); (case measure => (simp [intOf]; omega)))
       ·obtain rfl : k = C + 1 := by omega
        have hkc' : ¬ ((C + 1 : Nat) : Int) < (C : Int) + 1 := by omega
        have HB2 := Hd (HB1.out.trans (HB.out.mono HB1.out.size))
        rw [← HNX.out]
        gi_wp2
        go_roundw
        case rel => first | exact ⟨a + 1, by omega, by go_num, rfl, HB2⟩ | ((repeat apply Exists.intro); exact ⟨⟨a + 1, by omega, by go_num, rfl, HB2⟩, rfl⟩)
        case measure => simp [intOf]; omega
    ·obtain rfl : a = 3 := by omega
     have hlt' : ¬ (3 : Int) < 3 := by omega
     have HNF := Hd (show nxA v r at_ 3 = nxF v r at_ from rfl)
     have hok := nxF_ok HV.out HR.out (at_ := at_) (by omega)
     rw [HNF.out]
     have HAS := Hd (show atF v r (i + 1) = nxF v r at_ from by rw [← HAT.out]; rfl)
     have HJE := Hd (show J (List.range (i + 1)) (ownAlso O W3 wr) wr from HJ.out _ _ _ _ _ (by rw [List.range_succ]; exact HJ3.out) (Turn.of_below HB.out))
     have HQE := Hd (HQ.out.step HB.out)
     by_cases hneg : nxF v r at_ < 0
     ·have HIM := Hd (show IsM v r i from ⟨HGE.out, by rw [HAT.out]; exact hneg⟩)
      generalize nxF v r at_ = nx at *
      gi_wp2
      refine bodyPost_ret (results_none rfl _ _ _) rfl ?_
      exact ⟨⟨_, rfl⟩, .inl ⟨_, ⟨i, HIM.out, List.range_succ⟩, _, HJE.out⟩⟩
     ·have HGE2 := Hd (fun j (hj : j ≤ i + 1) => show 0 ≤ atF v r j from by
       by_cases e : j = i + 1
       ·subst e; rw [HAS.out]; omega
       ·exact HGE.out j (by omega))
      have hup : at_ < nxF v r at_ ∧ nxF v r at_ ≤ 43200000000 := by
       rcases hok with h | h
       ·omega
       ·exact ⟨h.1, h.2.2⟩
      obtain ⟨hu1, hu2⟩ := hup
      generalize nxF v r at_ = nx at *
      gi_wp2
      go_roundw
      case rel => first | exact ⟨i + 1, _, by rw [HAS.out], Lib.hid ⟨HGE2.out, HJE.out, HQE.out⟩⟩ | ((repeat apply Exists.intro); exact ⟨⟨i + 1, _, by rw [HAS.out], Lib.hid ⟨HGE2.out, HJE.out, HQE.out⟩⟩, rfl⟩)
      case measure => have hz := HAT.out; simp [intOf]; omega
  ·gi_wp2
   go_end0
   exact ⟨⟨_, rfl⟩, .inr ⟨_, O, ⟨i + 1, by rw [List.range_succ]⟩, hjx3⟩⟩
end Go.Proofs.YtgmpelhphnmknaaGreat
