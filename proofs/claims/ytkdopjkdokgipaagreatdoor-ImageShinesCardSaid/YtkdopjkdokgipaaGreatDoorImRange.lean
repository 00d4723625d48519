/- A range over a function whose iterator keeps blocks of its own: which blocks these are is carried along; it turns no others. No program here. -/
import Derived.RangeFuncNested
import Derived.RangeFuncBound
import Derived.RangeFuncCalls
import Derived.RangeFuncLeaves
import Derived.RangeFuncBox
import Derived.Shelf.Abstract
import Derived.Shelf.RegionOpen
import Derived.OwnWalkIn
import Derived.TacticsInMore
import Derived.LoopNIn
import Derived.LoopIn
import Derived.Test.YtkdopjkdokgipaaGreatDoorBase
namespace Go.Proofs.YtkdopjkdokgipaaGreatDoor
open Go.RowKit
set_option linter.unusedVariables false
set_option linter.unusedSimpArgs false
theorem round_any {m m' : Nat} {P : Program} {l : Nat} {f : FuncId} {tmps : Array Value} {assign body : Code} {w : World} {R : Ending → World → Prop}
    (h : RoundIn Fence.wide m P l f tmps assign body w R) : RoundIn Fence.wide m' P l f tmps assign body w R := ⟨h.1, fun c cs _ => h.2 c cs (room_wide _)⟩
theorem yield_any {m : Nat} (m' : Nat) {P : Program} {l : Nat} {args : Array Value} {W : World} {R : Ending → World → Prop} (h : YieldAt Fence.wide m P l args W R) : YieldAt Fence.wide m' P l args W R := by
  obtain ⟨fn, tmps, assign, body, hy, hR⟩ := h
  exact ⟨fn, tmps, assign, body, hy, round_any hR⟩
/-- A step of the iterator: what it lays is its own; of what lay it turns its own alone. -/
structure Turn (O : Nat → Prop) (W : World) (O' : Nat → Prop) (W' : World) : Prop where
  os : W'.os = W.os
  tape : W'.tape = W.tape
  output : W'.output = W.output
  size : W.heap.size ≤ W'.heap.size
  block : ∀ b, b < W.heap.size → ¬ O b → W'.heap[b]? = W.heap[b]?
  own : ∀ b, O' b ↔ O b ∨ (W.heap.size ≤ b ∧ b < W'.heap.size)
theorem Turn.refl (O : Nat → Prop) (W : World) : Turn O W O W := ⟨rfl, rfl, rfl, Nat.le_refl _, fun _ _ _ => rfl, fun b => ⟨.inl, fun h => h.elim id (fun h => by omega)⟩⟩
theorem Turn.trans {O O' O'' : Nat → Prop} {W W' W'' : World} (h : Turn O W O' W') (k : Turn O' W' O'' W'') : Turn O W O'' W'' :=
  ⟨k.os.trans h.os, k.tape.trans h.tape, k.output.trans h.output, Nat.le_trans h.size k.size, fun b hb ho => (k.block b (Nat.lt_of_lt_of_le hb h.size) (fun h2 => ((h.own b).1 h2).elim ho (fun h3 => by omega))).trans (h.block b hb ho), fun b => by
    rw [k.own, h.own]
    have := h.size; have := k.size
    constructor
    · rintro ((h1 | h1) | h1)
      · exact .inl h1
      · exact .inr ⟨h1.1, by omega⟩
      · exact .inr ⟨by omega, h1.2⟩
    · rintro (h1 | h1)
      · exact .inl (.inl h1)
      · by_cases e : b < W'.heap.size
        · exact .inl (.inr ⟨h1.1, e⟩)
        · exact .inr ⟨by omega, h1.2⟩⟩
/-- the blocks that are the iterator's behind a step -/
def ownAlso (O : Nat → Prop) (W W' : World) (b : Nat) : Prop := O b ∨ (W.heap.size ≤ b ∧ b < W'.heap.size)
theorem Turn.of {O : Nat → Prop} {W W' : World} (os : W'.os = W.os) (tape : W'.tape = W.tape) (output : W'.output = W.output) (size : W.heap.size ≤ W'.heap.size) (block : ∀ b, b < W.heap.size → ¬ O b → W'.heap[b]? = W.heap[b]?) : Turn O W (ownAlso O W W') W' :=
  ⟨os, tape, output, size, block, fun _ => Iff.rfl⟩
theorem Turn.below {O O' : Nat → Prop} {W W' : World} {B : Nat} (h : Turn O W O' W') (hB : B ≤ W.heap.size) (hO : ∀ b, O b → B ≤ b) : Below B W W' :=
  ⟨h.os, h.tape, h.output, h.size, fun k hk => h.block k (by omega) (fun h2 => by have := hO k h2; omega)⟩
theorem Turn.cell {O O' : Nat → Prop} {W W' : World} (h : Turn O W O' W') {b o : Nat} (hb : b < W.heap.size) (hO : ¬ O b) : W'.cell? ⟨b, o, none⟩ = W.cell? ⟨b, o, none⟩ := World.cell?_of_block (h.block b hb hO)
theorem Turn.frozen {O O' : Nat → Prop} {W W' : World} (h : Turn O W O' W') {b o : Nat} (hb : b < W.heap.size) (hO : ¬ O b) : W'.frozen? ⟨b, o, none⟩ = W.frozen? ⟨b, o, none⟩ := World.frozen?_of_block (h.block b hb hO)
theorem Turn.of_below {O : Nat → Prop} {W W' : World} (h : Below W.heap.size W W') : Turn O W (ownAlso O W W') W' := .of h.os h.tape h.output h.size (fun b hb _ => h.block b hb)
theorem Turn.drew (O : Nat → Prop) (W : World) : Turn O W O W.drew := ⟨rfl, rfl, rfl, Nat.le_refl _, fun _ _ _ => rfl, fun b => ⟨.inl, fun h => h.elim id (fun h => by have := h.1; have := h.2; simp at *; omega)⟩⟩
theorem Turn.setCell {O : Nat → Prop} {W : World} {b o : Nat} (hO : O b) (v : Value) : Turn O W O (W.setCell ⟨b, o, none⟩ v) :=
  ⟨rfl, rfl, rfl, by simp [World.setCell], fun k _ hk => Below.heap_setCell _ _ _ _ (fun e => hk (by rw [e]; exact hO)), fun k => ⟨.inl, fun h => h.elim id (fun h => by have := h.1; have := h.2; simp [World.setCell] at *; omega)⟩⟩
/-- An invariant that abides the iterator's steps. -/
def Abide {β : Type} (J : β → (Nat → Prop) → World → Prop) : Prop := ∀ s O W O' W', J s O W → Turn O W O' W' → J s O' W'
/-- What a round keeps for the iterator. -/
structure Kept (O : Nat → Prop) (W W' : World) : Prop where
  size : W.heap.size ≤ W'.heap.size
  block : ∀ b, O b → W'.heap[b]? = W.heap[b]?
theorem Kept.refl (O : Nat → Prop) (W : World) : Kept O W W := ⟨Nat.le_refl _, fun _ _ => rfl⟩
theorem Kept.trans {O : Nat → Prop} {A B C : World} (h : Kept O A B) (k : Kept O B C) : Kept O A C := ⟨Nat.le_trans h.size k.size, fun b hb => (k.block b hb).trans (h.block b hb)⟩
theorem Kept.alloc {O : Nat → Prop} {A B : World} (h : Kept O A B) (hO : ∀ b, O b → b < A.heap.size) (o : Obj) : Kept O A (B.alloc o) :=
  ⟨by have := h.size; simp; omega, fun b hb => (Below.heap_alloc B o b (Nat.lt_of_lt_of_le (hO b hb) h.size)).trans (h.block b hb)⟩
theorem Kept.setCell {O : Nat → Prop} {A B : World} (h : Kept O A B) {b o : Nat} (hb : ¬ O b) (v : Value) : Kept O A (B.setCell ⟨b, o, none⟩ v) :=
  ⟨by have := h.size; simp [World.setCell]; omega, fun k hk => (Below.heap_setCell B ⟨b, o, none⟩ v k (fun e => hb (by rw [← show k = b from e]; exact hk))).trans (h.block k hk)⟩
theorem Kept.drew {O : Nat → Prop} {A B : World} (h : Kept O A B) : Kept O A B.drew := ⟨h.size, h.block⟩
theorem Kept.below {O : Nat → Prop} {A B C : World} (h : Kept O A B) (hO : ∀ b, O b → b < A.heap.size) (hb : Below B.heap.size B C) : Kept O A C :=
  ⟨Nat.le_trans h.size hb.size, fun b ho => (hb.block b (Nat.lt_of_lt_of_le (hO b ho) h.size)).trans (h.block b ho)⟩
theorem Kept.put {O : Nat → Prop} {A : World} {l : Nat} (o : Obj) (hl : ¬ O l) : Kept O A (A.putObj l o) := ⟨by simp, fun b hb => World.putObj_heap_other (fun e => hl (by rw [← e]; exact hb))⟩
theorem Kept.cell {O : Nat → Prop} {A B : World} (h : Kept O A B) {b o : Nat} (hb : O b) : B.cell? ⟨b, o, none⟩ = A.cell? ⟨b, o, none⟩ := World.cell?_of_block (h.block b hb)
theorem Kept.frozen {O : Nat → Prop} {A B : World} (h : Kept O A B) {b o : Nat} (hb : O b) : B.frozen? ⟨b, o, none⟩ = A.frozen? ⟨b, o, none⟩ := World.frozen?_of_block (h.block b hb)
/-- what a round is to keep: the iterator's own blocks, and those that it reads -/
def With (O R : Nat → Prop) (b : Nat) : Prop := O b ∨ R b
/-- The iterator's contract: R: the blocks that it reads besides its own; Sh: what it shows of an item; Nx: what comes behind what; S: all that come; Sp: a part of them. -/
def SeqOwn {α : Type} (P : Program) (g : Nat) (lb : Array Value) (encs : α → Array Value) (R : Nat → Prop) (Sh : α → (Nat → Prop) → World → Prop) (Nx : List α → α → Prop) (S Sp : List α → Prop) (w : World) : Prop :=
  ∀ (l : Nat) (J Jx : List α → (Nat → Prop) → World → Prop) (W : World), Below w.heap.size w W → Abide J → Abide Jx →
    (∀ pre x O W1, J pre O W1 → Sh x O W1 → Nx pre x → ∀ m, YieldAt Fence.wide m P l (encs x) W1 fun e W' =>
      (e = .returned (.bool true) ∧ J (pre ++ [x]) O W' ∧ Kept (With O R) W1 W') ∨ (e = .returned (.bool false) ∧ Jx (pre ++ [x]) O W')) →
    J [] (fun _ => False) W →
    ∀ m, CallsIn Fence.wide m P g (#[.func (.yield l) #[] #[]] ++ lb) W fun e W' => (∃ v, e = .returned v) ∧ ((∃ xs O, S xs ∧ J xs O W') ∨ (∃ pre O, Sp pre ∧ Jx pre O W'))
/-- How a round's body may be left. -/
def ownPostO {α : Type} (B : Nat) (R : Nat → Prop) (I : List α → (Nat → Prop) → World → Prop) (Ix : Code → List α → (Nat → Prop) → World → Prop) (xs : List α) (O : Nat → Prop) (W : World) : Exit → Act → World → Prop
  | .normal, _, W' => KeepsFrom B W W' ∧ Kept (With O R) W W' ∧ I xs O W'
  | .ret, _, W' => KeepsFrom B W W' ∧ Ix .ret xs O W'
  | .exit id, _, W' => KeepsFrom B W W' ∧ Ix (.exit id) xs O W'
  | .goto t, _, W' => KeepsFrom B W W' ∧ Ix (.goto t) xs O W'
  | .panic _, _, _ => False
  | .outgrown, _, _ => False
/-- A block of the loop's own book-keeping is turned. -/
def Booked {β : Type} (B : Nat) (I : β → (Nat → Prop) → World → Prop) : Prop :=
  ∀ s O W l o o', I s O W → B ≤ l → W.heap[l]? = some o → o.isCells = false → I s O (W.putObj l o')
theorem wpIn_range_own {α : Type} {P : Program} {g : Operand} {ps : Array Tmp} {assign body : Code} {Q : Exit → Act → World → Prop} {a : Act} {w : World} {n : Nat}
    {gf : Nat} {lb : Array Value} (hg : a.eval g = .func (.func gf) #[] lb) (eg : ∀ args w, (callFunc gf args).run P w = .ok (.enter gf args) w)
    {encs : α → Array Value} {R : Nat → Prop} {Sh : α → (Nat → Prop) → World → Prop} {Nx : List α → α → Prop} {S Sp : List α → Prop} {w0 : World} (hseq : SeqOwn P gf lb encs R Sh Nx S Sp w0) (hR : ∀ b, R b → b < w.heap.size)
    (hb0 : Below w0.heap.size w0 w) (hps : ∀ x, (encs x).size = ps.size)
    (hSh : ∀ x O W l o', Sh x O W → ¬ O l → Sh x O (W.putObj l o'))
    (I : List α → (Nat → Prop) → World → Prop) (Ix : Code → List α → (Nat → Prop) → World → Prop) (hI : Abide I) (hIx : ∀ c, Abide (Ix c)) (hIb : Booked w.heap.size I) (hIxb : ∀ c, Booked w.heap.size (Ix c))
    (h0 : ∀ W, Below w.heap.size w W → I [] (fun _ => False) W) (Ax : α → Act → (Nat → Prop) → World → Prop) (hAx : ∀ x a' O W l o', Ax x a' O W → w.heap.size + 1 = l → Ax x a' O (W.putObj l o'))
    (hassign : ∀ (l : Nat) (pre : List α) (x : α) (O : Nat → Prop) (W : World) (K : Act → World → Prop), w.heap.size + 2 ≤ W.heap.size → (∀ b, O b → w.heap.size + 2 ≤ b ∧ b < W.heap.size) → I pre O W → Sh x O W → (∀ a' W', KeepsFrom w.heap.size W W' → Kept (With O R) W W' → I pre O W' → Ax x a' O W' → Sh x O W' → K a' W') →
      assign.wpIn (Fence.wide.inRound l) (n - 1 - 1) P (Exit.then K (fun _ _ _ => False)) { tmps := (ps.zip (encs x)).foldl (fun t (p, v) => t.setIfInBounds p v) a.tmps, defers := [] } W)
    (hbody : ∀ (l : Nat) (pre : List α) (x : α) (a' : Act) (O : Nat → Prop) (W : World), w.heap.size ≤ l → w.heap.size + 2 ≤ W.heap.size → (∀ b, O b → w.heap.size + 2 ≤ b ∧ b < W.heap.size) → I pre O W → Ax x a' O W → Sh x O W → Nx pre x → body.wpIn (Fence.wide.inRound l) (n - 1 - 1) P (ownPostO w.heap.size R I Ix (pre ++ [x]) O W) a' W)
    (hdone : ∀ (D : Nat) (xs : List α) (O : Nat → Prop) (W : World), w.heap.size ≤ D → ¬ O D → S xs → I xs O W → W.heap[D]? = some (.deferred (some [])) → Q .normal { a with defers := { target := .collected D, args := #[] } :: a.defers } W)
    (hstop : ∀ (D : Nat) (c : Code) (pre : List α) (O : Nat → Prop) (W : World), w.heap.size ≤ D → ¬ O D → Sp pre → Ix c pre O W → W.heap[D]? = some (.deferred (some [])) → c.wpIn Fence.wide n P Q { a with defers := { target := .collected D, args := #[] } :: a.defers } W) :
    (Code.rangeFunc g ps assign body).wpIn Fence.wide n P Q a w := by
  refine wpIn_rangeFunc ?_
  intro fn hfn
  rw [show Fence.wide.round = none from rfl]
  obtain ⟨rec, hrec⟩ : ∃ rec : LoopState → Option Code → Loop, rec = fun st pe => { state := st, pending := pe, fn, tmps := a.tmps, params := ps, assign, body, defers := w.heap.size } := ⟨_, rfl⟩
  obtain ⟨W1, hW1⟩ : ∃ W1, (w.alloc (.deferred (some []))).alloc (.loop (rec .ready none)) = W1 := ⟨_, rfl⟩
  have hL1 : W1.heap[w.heap.size + 1]? = some (.loop (rec .ready none)) := by
    rw [← hW1]; have := World.alloc_heap_new (w.alloc (.deferred (some []))) (.loop (rec .ready none)); rwa [World.size_alloc] at this
  have hK1 : W1.heap[w.heap.size]? = some (.deferred (some [])) := by
    rw [← hW1]; exact (Below.heap_alloc _ _ _ (by simp)).trans (World.alloc_heap_new w _)
  have hbw : Below w.heap.size w W1 := by rw [← hW1]; exact ((Below.refl _ w).alloc (Nat.le_refl _) _).alloc (by simp) _
  have hb1 : Below w0.heap.size w0 W1 := hb0.trans (hbw.mono hb0.size)
  have hsz : W1.heap.size = w.heap.size + 2 := by rw [← hW1]; simp
  refine ⟨w.heap.size + 1, [{ target := .collected w.heap.size, args := #[] }], W1, { target := .fn (.func gf) lb, args := #[.func (.yield (w.heap.size + 1)) #[] #[]] }, W1, gf,
    #[.func (.yield (w.heap.size + 1)) #[] #[]] ++ lb, W1, ?_, ?_, fun _ _ => trivial, ?_, fun h => by simp [Fence.wide] at h, ?_⟩
  · rw [← hW1, hrec]; exact run_enterLoop_outer _ _ _ _ _
  · simp only [resolve, hg]
    simp [go_sem]
  · simp [invoke, go_sem, eg]
  · -- the iterator's blocks lie behind the two of the loop
    have far : ∀ {O : Nat → Prop} {W : World} {O' : Nat → Prop} {W' : World}, (∀ b, O b → w.heap.size + 2 ≤ b ∧ b < W.heap.size) ∧ w.heap.size + 2 ≤ W.heap.size → Turn O W O' W' → (∀ b, O' b → w.heap.size + 2 ≤ b ∧ b < W'.heap.size) ∧ w.heap.size + 2 ≤ W'.heap.size := fun {O W O' W'} h ht =>
      ⟨fun b hb => by
        have := ht.size
        rcases (ht.own b).1 hb with h1 | h1
        · have := h.1 b h1; omega
        · omega, by have := ht.size; omega⟩
    refine (hseq (w.heap.size + 1)
      (fun pre O W => I pre O W ∧ W.heap[w.heap.size + 1]? = some (.loop (rec .ready none)) ∧ W.heap[w.heap.size]? = some (.deferred (some [])) ∧ (∀ b, O b → w.heap.size + 2 ≤ b ∧ b < W.heap.size) ∧ w.heap.size + 2 ≤ W.heap.size)
      (fun pre O W => ∃ c, Ix c pre O W ∧ W.heap[w.heap.size + 1]? = some (.loop (rec .done (some c))) ∧ W.heap[w.heap.size]? = some (.deferred (some [])) ∧ (∀ b, O b → w.heap.size + 2 ≤ b ∧ b < W.heap.size) ∧ w.heap.size + 2 ≤ W.heap.size)
      W1 hb1
      (fun s O A O' A' hs ht => ⟨hI s O A O' A' hs.1 ht, (ht.block _ (by have := hs.2.2.2.2; omega) (fun h => by have := (hs.2.2.2.1 _ h).1; omega)).trans hs.2.1, (ht.block _ (by have := hs.2.2.2.2; omega) (fun h => by have := (hs.2.2.2.1 _ h).1; omega)).trans hs.2.2.1, far hs.2.2.2 ht⟩)
      (fun s O A O' A' hs ht => by
        obtain ⟨c, hc, hl, hk, hf⟩ := hs
        exact ⟨c, hIx c s O A O' A' hc ht, (ht.block _ (by have := hf.2; omega) (fun h => by have := (hf.1 _ h).1; omega)).trans hl, (ht.block _ (by have := hf.2; omega) (fun h => by have := (hf.1 _ h).1; omega)).trans hk, far hf ht⟩)
      ?_ ⟨h0 W1 hbw, hL1, hK1, fun b hb => hb.elim, by omega⟩ (n - 1)).mono ?_
    · -- one round
      rintro pre x O W ⟨hi, hl, hk, hfar, hws⟩ hsh hnx m
      refine yield_any (m := n - 1 - 1) m ?_
      have hy := run_yield (P := P) (args := encs x) hl (by rw [hrec]; exact hps x)
      rw [hrec] at hy
      refine ⟨fn, _, assign, body, hy, roundIn_of_wpIn hfn (hassign _ pre x O W _ hws hfar hi hsh ?_)⟩
      clear hy
      intro a' Wa hkfa hkpa hia hax hsha
      have hla := hkfa.same _ _ (by omega) hl rfl
      have hka := hkfa.same _ _ (Nat.le_refl _) hk rfl
      have hzs := hkfa.size
      have hno : ¬ O (w.heap.size + 1) := fun h => by have := (hfar _ h).1; omega
      have hnw : ¬ With O R (w.heap.size + 1) := fun h => h.elim hno (fun h2 => by have := hR _ h2; omega)
      have hlt : w.heap.size + 1 < Wa.heap.size := by omega
      refine ⟨_, run_beginRound hla (by rw [hrec]), ?_⟩
      have hl2 : (Wa.putObj (w.heap.size + 1) (.loop { rec .ready none with state := .busy })).heap[w.heap.size + 1]? = some (.loop { rec .ready none with state := .busy }) := World.putObj_heap_same hlt
      have hk2 : (Wa.putObj (w.heap.size + 1) (.loop { rec .ready none with state := .busy })).heap[w.heap.size]? = some (.deferred (some [])) := (World.putObj_heap_other (by omega)).trans hka
      refine wpIn_mono (hbody _ pre x a' O _ (by omega) (by simp; omega) (fun b hb => by have := hfar b hb; simp; omega) (hIb _ _ _ _ _ _ hia (by omega) hla rfl) (hAx _ _ _ _ _ _ hax rfl) (hSh _ _ _ _ _ hsha hno) hnx) ?_
      have fin : ∀ (jump : Option Code) (W3 : World), KeepsFrom w.heap.size (Wa.putObj (w.heap.size + 1) (.loop { rec .ready none with state := .busy })) W3 →
          (Instr.endRound (w.heap.size + 1) jump).run P W3 = .ok (.bool jump.isNone) (W3.putObj (w.heap.size + 1) (.loop (rec (if jump.isNone then .ready else .done) jump))) ∧
          W3.heap[w.heap.size + 1]? = some (.loop { rec .ready none with state := .busy }) ∧
          (W3.putObj (w.heap.size + 1) (.loop (rec (if jump.isNone then .ready else .done) jump))).heap[w.heap.size + 1]? = some (.loop (rec (if jump.isNone then .ready else .done) jump)) ∧
          (W3.putObj (w.heap.size + 1) (.loop (rec (if jump.isNone then .ready else .done) jump))).heap[w.heap.size]? = some (.deferred (some [])) ∧
          ((∀ b, O b → w.heap.size + 2 ≤ b ∧ b < (W3.putObj (w.heap.size + 1) (.loop (rec (if jump.isNone then .ready else .done) jump))).heap.size) ∧ w.heap.size + 2 ≤ (W3.putObj (w.heap.size + 1) (.loop (rec (if jump.isNone then .ready else .done) jump))).heap.size) := fun jump W3 hk3 => by
        have hl3 := hk3.same _ _ (by omega) hl2 rfl
        have hz3 := hk3.size
        have := run_endRound (P := P) jump hl3
        rw [hrec] at this ⊢
        exact ⟨this, by rw [hrec] at hl3; exact hl3, World.putObj_heap_same (Array.getElem?_eq_some_iff.1 hl3).1, (World.putObj_heap_other (by omega)).trans (hk3.same _ _ (Nat.le_refl _) hk2 rfl), fun b hb => by have := hfar b hb; simp at *; omega, by simp at *; omega⟩
      rintro e a3 W3 hp
      cases e with
      | normal =>
        obtain ⟨hk3, hkp3, hi3⟩ := hp
        obtain ⟨hr, hl3, hl4, hk4, hf4⟩ := fin none W3 hk3
        exact ⟨_, _, hr, .inl ⟨rfl, ⟨hIb _ _ _ _ _ _ hi3 (by omega) hl3 rfl, hl4, hk4, hf4⟩, hkpa.trans ((Kept.put _ hnw).trans (hkp3.trans (Kept.put _ hnw)))⟩⟩
      | ret =>
        obtain ⟨hk3, hi3⟩ := hp
        obtain ⟨hr, hl3, hl4, hk4, hf4⟩ := fin (some .ret) W3 hk3
        exact ⟨_, _, hr, .inr ⟨rfl, .ret, hIxb _ _ _ _ _ _ _ hi3 (by omega) hl3 rfl, hl4, hk4, hf4⟩⟩
      | exit id =>
        obtain ⟨hk3, hi3⟩ := hp
        obtain ⟨hr, hl3, hl4, hk4, hf4⟩ := fin (some (.exit id)) W3 hk3
        exact ⟨_, _, hr, .inr ⟨rfl, .exit id, hIxb _ _ _ _ _ _ _ hi3 (by omega) hl3 rfl, hl4, hk4, hf4⟩⟩
      | goto t =>
        obtain ⟨hk3, hi3⟩ := hp
        obtain ⟨hr, hl3, hl4, hk4, hf4⟩ := fin (some (.goto t)) W3 hk3
        exact ⟨_, _, hr, .inr ⟨rfl, .goto t, hIxb _ _ _ _ _ _ _ hi3 (by omega) hl3 rfl, hl4, hk4, hf4⟩⟩
      | panic ch => exact hp.elim
      | outgrown => exact hp.elim
    · -- behind the iterator
      rintro e W2 ⟨⟨v, rfl⟩, (⟨xs, O, hS, hi, hl, hk, hf⟩ | ⟨pre, O, hSp, c, hi, hl, hk, hf⟩)⟩
      · exact ⟨none, _, by have := run_endLoop (P := P) hl (by rw [hrec]; simp); rw [hrec] at this; exact this, hdone _ xs O _ (Nat.le_refl _) (fun h => by have := (hf.1 _ h).1; omega) hS (hIb _ _ _ _ _ _ hi (by omega) hl rfl) ((World.putObj_heap_other (by omega)).trans hk)⟩
      · exact ⟨some c, _, by have := run_endLoop (P := P) hl (by rw [hrec]; simp); rw [hrec] at this; exact this, hstop _ c pre O _ (Nat.le_refl _) (fun h => by have := (hf.1 _ h).1; omega) hSp (hIxb _ _ _ _ _ _ _ hi (by omega) hl rfl) ((World.putObj_heap_other (by omega)).trans hk)⟩
end Go.Proofs.YtkdopjkdokgipaaGreatDoor
