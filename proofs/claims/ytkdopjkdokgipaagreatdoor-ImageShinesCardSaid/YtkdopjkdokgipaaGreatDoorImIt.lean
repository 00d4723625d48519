/- The iterator over the fields that agree: what it shows, what it keeps; the function that calls itself. -/
import Derived.Test.YtkdopjkdokgipaaGreatDoorImRange
import Derived.Test.YtkdopjkdokgipaaGreatDoorImCan
import Derived.Test.YtkdopjkdokgipaaGreatDoorGbA
namespace Go.Proofs.YtkdopjkdokgipaaGreatDoor
open Go.RowKit Go.Shelf
set_option linter.unusedVariables false
set_option linter.unusedSimpArgs false
attribute [local go_sem] Oper.semAt_some
/-- a field as it is shown: its densities, where they lie, where its sums lie -/
structure FX where
  f : List Int
  fa : Option Addr
  sa : Option Addr
abbrev encFX (n m : Nat) (x : FX) : Array Value := #[.slice x.fa n n, .slice x.sa m m]
def InSpans (n : Nat) (ss : Nat → SV) (f : List Int) : Prop := ∀ c, c < f.length → (ss c).lo ≤ fOf f c ∧ fOf f c ≤ (ss c).hi
/-- what a round is shown of a field -/
structure Shown (n : Nat) (ss : Nat → SV) (m : Nat) (bs : Nat → BM) (x : FX) (O : Nat → Prop) (W : World) : Prop where
  len : x.f.length = n
  ins : InSpans n ss x.f
  field : ∃ b, x.fa = some ⟨b, 0, none⟩ ∧ O b ∧ b < W.heap.size ∧ ∀ c, c < n → W.cell? ⟨b, c, none⟩ = some (.int .i64 (fOf x.f c))
  sums : IntsR O W x.sa m (sumsOf bs x.f)
/-- where the iterator's variables lie -/
structure ItP where
  sB : Nat
  yB : Nat
  fB : Nat
  fb : Nat
  mB : Nat
def ItP.caps (q : ItP) : Array Value := #[.pointer (some ⟨q.sB, 0, none⟩), .pointer (some ⟨q.yB, 0, none⟩), .pointer (some ⟨q.fB, 0, none⟩), .pointer (some ⟨q.mB, 0, none⟩)]
/-- what the iterator holds while it has chosen the densities p -/
structure EnvF (R : Nat → Prop) (n : Nat) (ss : Nat → SV) (m : Nat) (bs : Nat → BM) (sp l : Nat) (q : ItP) (p : List Int) (O : Nat → Prop) (W : World) : Prop where
  search : SearchAt R n ss m bs sp W
  sown : R q.sB
  sbox : W.cell? ⟨q.sB, 0, none⟩ = some (.pointer (some ⟨sp, 0, none⟩))
  yown : O q.yB
  ybox : W.cell? ⟨q.yB, 0, none⟩ = some (.func (.yield l) #[] #[])
  fown : O q.fB
  fbox : W.cell? ⟨q.fB, 0, none⟩ = some (.slice (some ⟨q.fb, 0, none⟩) n n)
  mown : O q.mB
  mbox : W.cell? ⟨q.mB, 0, none⟩ = some (.func (.func 89) #[] #[.pointer (some ⟨q.sB, 0, none⟩), .pointer (some ⟨q.yB, 0, none⟩), .pointer (some ⟨q.fB, 0, none⟩), .pointer (some ⟨q.mB, 0, none⟩)])
  rown : O q.fb
  row : ∃ f, IR 3 W q.fb n f ∧ ∀ c, c < p.length → f c = fOf p c
  apart : q.fb ≠ q.yB ∧ q.fb ≠ q.fB ∧ q.fb ≠ q.mB
  olt : ∀ b, O b → b < W.heap.size
  rlt : ∀ b, R b → b < W.heap.size
  disj : ∀ b, O b → ¬ R b
/-- how the iterator and the rounds go on, the densities p being chosen -/
structure Evo (R : Nat → Prop) (n fb : Nat) (p : List Int) (O : Nat → Prop) (W : World) (O' : Nat → Prop) (W' : World) : Prop where
  sub : ∀ b, O b → O' b
  new : ∀ b, O' b → O b ∨ W.heap.size ≤ b
  lt : ∀ b, O' b → b < W'.heap.size
  size : W.heap.size ≤ W'.heap.size
  own : ∀ b, O b → b ≠ fb → W'.heap[b]? = W.heap[b]?
  rely : ∀ b, R b → W'.heap[b]? = W.heap[b]?
  row : ∃ f, IR 3 W' fb n f ∧ ∀ c, c < p.length → f c = fOf p c
section
variable {R : Nat → Prop} {n : Nat} {ss : Nat → SV} {m : Nat} {bs : Nat → BM} {sp l : Nat} {q : ItP} {p : List Int} {O O' O'' : Nat → Prop} {W W' W'' : World}
theorem EnvF.evo (h : EnvF R n ss m bs sp l q p O W) (e : Evo R n q.fb p O W O' W') : EnvF R n ss m bs sp l q p O' W' := by
  have k : ∀ b, O b → b ≠ q.fb → W'.cell? ⟨b, 0, none⟩ = W.cell? ⟨b, 0, none⟩ := fun b hb hn => World.cell?_of_block (e.own b hb hn)
  exact ⟨h.search.rests e.rely e.size, h.sown, (World.cell?_of_block (e.rely _ h.sown)).trans h.sbox, e.sub _ h.yown, (k _ h.yown (Ne.symm h.apart.1)).trans h.ybox, e.sub _ h.fown, (k _ h.fown (Ne.symm h.apart.2.1)).trans h.fbox, e.sub _ h.mown, (k _ h.mown (Ne.symm h.apart.2.2)).trans h.mbox, e.sub _ h.rown, e.row, h.apart, e.lt,
    fun b hb => by have := h.rlt b hb; have := e.size; omega, fun b hb hr => (e.new b hb).elim (fun h1 => h.disj b h1 hr) (fun h1 => by have := h.rlt b hr; omega)⟩
theorem Evo.refl (h : EnvF R n ss m bs sp l q p O W) : Evo R n q.fb p O W O W := ⟨fun _ h => h, fun _ h => .inl h, h.olt, Nat.le_refl _, fun _ _ _ => rfl, fun _ _ => rfl, h.row⟩
theorem Evo.trans {fb : Nat} (h : Evo R n fb p O W O' W') (k : Evo R n fb p O' W' O'' W'') : Evo R n fb p O W O'' W'' :=
  ⟨fun b hb => k.sub b (h.sub b hb), fun b hb => (k.new b hb).elim (h.new b) (fun h1 => .inr (Nat.le_trans h.size h1)), k.lt, Nat.le_trans h.size k.size, fun b hb hn => (k.own b (h.sub b hb) hn).trans (h.own b hb hn), fun b hb => (k.rely b hb).trans (h.rely b hb), k.row⟩
/-- a round keeps all that is the iterator's -/
theorem Evo.kept (h : EnvF R n ss m bs sp l q p O W) (k : Kept (With O R) W W') : Evo R n q.fb p O W O W' :=
  ⟨fun _ h => h, fun _ h => .inl h, fun b hb => by have := h.olt b hb; have := k.size; omega, k.size, fun b hb _ => k.block b (.inl hb), fun b hb => k.block b (.inr hb), by
    obtain ⟨f, h1, h2⟩ := h.row
    exact ⟨f, h1.block (k.block _ (.inl h.rown)), h2⟩⟩
end
/-- what a call with r cells left comes to -/
def MoreRes (R : Nat → Prop) (n : Nat) (ss : Nat → SV) (m : Nat) (bs : Nat → BM) (fb : Nat) (J Jx : List FX → (Nat → Prop) → World → Prop) (r : Nat) (p : List Int) (xs : List FX) (O : Nat → Prop) (W : World) (e : Ending) (W' : World) : Prop :=
  (e = .returned (.bool true) ∧ ∃ ys O', ys.map FX.f = visF n ss m bs r p ∧ J (xs ++ ys) O' W' ∧ Evo R n fb p O W O' W') ∨
  (e = .returned (.bool false) ∧ ∃ ys O', (∃ k, ys.map FX.f = (visF n ss m bs r p).take k) ∧ Jx (xs ++ ys) O' W')
/-- all of them come before the fields that begin so -/
def Pos (xs : List FX) (p : List Int) : Prop := ∀ x ∈ xs, ∀ g, p <+: g → lexLt x.f g
/-- what comes next -/
def Nxt (n : Nat) (ss : Nat → SV) (m : Nat) (bs : Nat → BM) (pre : List FX) (x : FX) : Prop := Pos pre x.f ∧ x.f ∈ allF n ss m bs
/-- what a round owes -/
def Owes (R : Nat → Prop) (n : Nat) (ss : Nat → SV) (m : Nat) (bs : Nat → BM) (l : Nat) (J Jx : List FX → (Nat → Prop) → World → Prop) : Prop :=
  ∀ pre x O W1, J pre O W1 → Shown n ss m bs x O W1 → Nxt n ss m bs pre x → ∀ k, YieldAt Fence.wide k Tryz.prog l (encFX n m x) W1 fun e W' =>
      (e = .returned (.bool true) ∧ J (pre ++ [x]) O W' ∧ Kept (With O R) W1 W') ∨ (e = .returned (.bool false) ∧ Jx (pre ++ [x]) O W')
end Go.Proofs.YtkdopjkdokgipaaGreatDoor
