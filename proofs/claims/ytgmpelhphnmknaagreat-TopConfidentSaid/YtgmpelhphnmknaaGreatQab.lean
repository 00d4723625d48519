/- Texts put together: ImLaw, ImMem, RegTail, ImA, ImOwn. -/
import Derived.Test.YtgmpelhphnmknaaGreatQaa
import Derived.StillTail
import Derived.Test.YtgmpelhphnmknaaGreatProg
import Derived.Deep.OwnRows
import Derived.Deep.AppendLies
import Derived.Deep.RegionLaw
import Derived.Deep.RegionHeld3
import Derived.BigRegion
import Derived.OneCell
set_option maxRecDepth 100000
set_option maxHeartbeats 8000000
set_option linter.unusedVariables false
set_option linter.unusedSimpArgs false
namespace Go.Proofs.YtgmpelhphnmknaaGreat
def sumN (f : Nat → Int) : Nat → Int
 | 0 => 0
 | n + 1 => sumN f n + f n
theorem sumN_congr {f g : Nat → Int} : ∀ n, (∀ i, i < n → f i = g i) → sumN f n = sumN g n
 | 0, _ => rfl
 | n + 1, h => by rw [sumN, sumN, sumN_congr n (fun i hi => h i (by omega)), h n (by omega)]
theorem sumN_zero {f : Nat → Int} : ∀ n, (∀ i, i < n → f i = 0) → sumN f n = 0
 | 0, _ => rfl
 | n + 1, h => by rw [sumN, sumN_zero n (fun i hi => h i (by omega)), h n (by omega)]; rfl
theorem sumN_point {f : Nat → Int} {c : Nat} {x : Int} : ∀ n, c < n → sumN (fun i => if i = c then f i + x else f i) n = sumN f n + x
 | 0, h => by omega
 | n + 1, h => by
  rw [sumN, sumN]
  by_cases e : c = n
  ·subst e
   rw [if_pos rfl, sumN_congr (f := fun i => if i = c then f i + x else f i) (g := f) c (fun i hi => if_neg (by omega))]
   omega
  ·rw [if_neg (by omega), sumN_point n (by omega)]
   omega
def wUp (cs ws : Nat → Int) : Nat → Nat → Int
 | 0, _ => 0
 | k + 1, c => if cs k = (c : Int) then ws k else wUp cs ws k c
theorem wUp_zero {cs ws : Nat → Int} : ∀ (k c : Nat), (∀ j, j < k → cs j ≠ (c : Int)) → wUp cs ws k c = 0
 | 0, _, _ => rfl
 | k + 1, c, h => by
  rw [wUp, if_neg (h k (by omega))]
  exact wUp_zero k c (fun j hj => h j (by omega))
theorem wUp_pos {cs ws : Nat → Int} : ∀ (k : Nat), (∀ j, j < k → 1 ≤ ws j ∧ ws j ≤ 1000000) → ∀ (c : Nat), 0 ≤ wUp cs ws k c ∧ wUp cs ws k c ≤ 1000000
 | 0, _, _ => by simp [wUp]
 | k + 1, h, c => by
  rw [wUp]
  split
  ·have := h k (by omega); omega
  ·exact wUp_pos k (fun j hj => h j (by omega)) c
theorem wUp_sum {n m : Nat} {cs ws : Nat → Int} (hs : setB n m cs = true) (f : Nat → Int) : ∀ k, k ≤ m → sumN (fun c => wUp cs ws k c * f c) n = sumN (fun j => ws j * f (cs j).toNat) k
 | 0, _ => by rw [sumN]; exact sumN_zero n (fun i _ => by simp [wUp])
 | k + 1, hk => by
  have h0 := setB_at hs (i := k) (by omega)
  rw [sumN, ← wUp_sum hs f k (by omega), ← sumN_point (c := (cs k).toNat) n (by omega)]
  refine sumN_congr n (fun c _ => ?_)
  rw [wUp]
  by_cases e : c = (cs k).toNat
  ·rw [if_pos (by omega), if_pos e, wUp_zero k c (fun j hj h => ?_), e]
   ·simp
   ·have := setB_ne hs (i := j) (j := k) (by omega) (by omega) (by omega)
    omega
  ·rw [if_neg (by omega), if_neg e]
def BM.w (b : BM) (c : Nat) : Int := wUp b.cs b.ws b.cn c
def ofN (b : BM) (f : Nat → Int) : Int := sumN (fun k => b.ws k * f (b.cs k).toNat) b.cn
theorem ofN_dense {n : Nat} {b : BM} (hs : setB n b.cn b.cs = true) (f : Nat → Int) : ofN b f = sumN (fun c => b.w c * f c) n := (wUp_sum hs f b.cn (Nat.le_refl _)).symm
def fOf (l : List Int) (c : Nat) : Int := l.getD c 0
def fieldB (n : Nat) (ss : Nat → SV) (k : Nat) (f : Nat → Int) : Bool := allUpto (min k n) (fun i => inB (f i) (ss i).lo (ss i).hi) && (k == n)
def agreesB (m : Nat) (bs : Nat → BM) (f : Nat → Int) : Bool := allUpto m (fun i => inB (ofN (bs i) f) (bs i).lo (bs i).hi)
theorem ofN_congr {n : Nat} {b : BM} (hs : setB n b.cn b.cs = true) {f g : Nat → Int} (h : ∀ c, c < n → f c = g c) : ofN b f = ofN b g := by
 unfold ofN
 refine sumN_congr _ (fun k hk => ?_)
 have := setB_at hs hk
 rw [h _ (by omega)]
theorem agreesB_congr {n m : Nat} {ss : Nat → SV} {bs : Nat → BM} (hS : Shape n ss m bs) {f g : Nat → Int} (h : ∀ c, c < n → f c = g c) : agreesB m bs f = agreesB m bs g := by
 rw [Bool.eq_iff_iff]
 simp only [agreesB, allUpto_iff]
 constructor
 ·intro h1 i hi; rw [← ofN_congr (hS.set i hi) h]; exact h1 i hi
 ·intro h1 i hi; rw [ofN_congr (hS.set i hi) h]; exact h1 i hi
def dens (s : SV) : List Int := (List.range (s.hi - s.lo + 1).toNat).map (fun k : Nat => s.lo + (k : Int))
theorem dens_mem {s : SV} {d : Int} : d ∈ dens s ↔ s.lo ≤ d ∧ d ≤ s.hi := by
 simp only [dens, List.mem_map, List.mem_range]
 constructor
 ·rintro ⟨k, hk, rfl⟩; omega
 ·intro h; exact ⟨(d - s.lo).toNat, by omega, by omega⟩
def enumF (n : Nat) (ss : Nat → SV) (ag : List Int → Bool) : Nat → List Int → List (List Int)
 | 0, pre => if ag pre = true then [pre] else []
 | r + 1, pre => (dens (ss (n - (r + 1)))).flatMap (fun d => enumF n ss ag r (pre ++ [d]))
theorem enumF_mem {n : Nat} {ss : Nat → SV} {ag : List Int → Bool} : ∀ r pre g, r ≤ n → pre.length = n - r → (g ∈ enumF n ss ag r pre ↔ ag g = true ∧ g.length = n ∧ pre <+: g ∧ ∀ c, n - r ≤ c → c < n → (ss c).lo ≤ fOf g c ∧ fOf g c ≤ (ss c).hi)
 | 0, pre, g, hr, hp => by
  rw [enumF]
  constructor
  ·intro h
   split at h
   ·rename_i ha
    simp at h; subst h
    exact ⟨ha, by omega, List.prefix_refl _, fun c h1 h2 => by omega⟩
   ·simp at h
  ·rintro ⟨h1, h2, h3, h4⟩
   have e : pre = g := h3.eq_of_length (by omega)
   subst e
   rw [if_pos h1]; simp
 | r + 1, pre, g, hr, hp => by
  rw [enumF]
  simp only [List.mem_flatMap]
  constructor
  ·rintro ⟨d, hd, hg⟩
   obtain ⟨h1, h2, h3, h4⟩ := (enumF_mem r (pre ++ [d]) g (by omega) (by simp; omega)).1 hg
   have h5 : pre <+: g := (List.prefix_append _ _).trans h3
   refine ⟨h1, h2, h5, fun c hc1 hc2 => ?_⟩
   by_cases e : c = n - (r + 1)
   ·have : fOf g c = d := by
     obtain ⟨t, rfl⟩ := h3
     rw [fOf, List.getD_eq_getElem?_getD, List.getElem?_append_left (by simp; omega), List.getElem?_append_right (by omega)]
     simp [show c - pre.length = 0 by omega]
    rw [this, e]
    exact dens_mem.1 hd
   ·exact h4 c (by omega) hc2
  ·rintro ⟨h1, h2, h3, h4⟩
   have h5 := h4 (n - (r + 1)) (by omega) (by omega)
   refine ⟨fOf g (n - (r + 1)), dens_mem.2 h5, (enumF_mem r _ g (by omega) (by simp; omega)).2 ⟨h1, h2, ?_, fun c hc1 hc2 => h4 c (by omega) hc2⟩⟩
   obtain ⟨t, rfl⟩ := h3
   cases t with
   | nil => simp at h2; omega
   | cons x t =>
    have : fOf (pre ++ x :: t) (n - (r + 1)) = x := by
     rw [fOf, List.getD_eq_getElem?_getD, List.getElem?_append_right (by omega)]
     simp [show n - (r + 1) - pre.length = 0 by omega]
    rw [this]
    exact ⟨t, by simp⟩
def allF (n : Nat) (ss : Nat → SV) (m : Nat) (bs : Nat → BM) : List (List Int) := enumF n ss (fun f => agreesB m bs (fOf f)) n []
theorem allF_mem {n : Nat} {ss : Nat → SV} {m : Nat} {bs : Nat → BM} {g : List Int} : g ∈ allF n ss m bs ↔ agreesB m bs (fOf g) = true ∧ g.length = n ∧ ∀ c, c < n → (ss c).lo ≤ fOf g c ∧ fOf g c ≤ (ss c).hi := by
 unfold allF
 rw [enumF_mem n [] g (Nat.le_refl _) (by simp)]
 simp
def preSum (b : BM) (f : Nat → Int) (c : Nat) : Int := sumN (fun i => b.w i * f i) c
def rest (n : Nat) (b : BM) (f : Nat → Int) : Nat → Int
 | 0 => 0
 | j + 1 => rest n b f j + b.w (n - (j + 1)) * f (n - (j + 1))
theorem rest_sum {n : Nat} {b : BM} {f : Nat → Int} : ∀ j, j ≤ n → preSum b f (n - j) + rest n b f j = preSum b f n
 | 0, _ => by simp [rest]
 | j + 1, h => by
  have ih := rest_sum (n := n) (b := b) (f := f) j (by omega)
  have e : preSum b f (n - j) = preSum b f (n - (j + 1)) + b.w (n - (j + 1)) * f (n - (j + 1)) := by
   rw [show n - j = n - (j + 1) + 1 by omega]; rfl
  rw [rest]; omega
theorem rest_le {n : Nat} {b : BM} {f g : Nat → Int} (hw : ∀ c, 0 ≤ b.w c) : ∀ j, j ≤ n → (∀ c, n - j ≤ c → c < n → f c ≤ g c) → rest n b f j ≤ rest n b g j
 | 0, _, _ => Int.le_refl _
 | j + 1, h, hf => by
  have ih := rest_le hw (n := n) (f := f) (g := g) j (by omega) (fun c (h1 : n - j ≤ c) (h2 : c < n) => hf c (by omega) h2)
  have h1 := Int.mul_le_mul_of_nonneg_left (hf (n - (j + 1)) (by omega) (by omega)) (hw (n - (j + 1)))
  rw [rest, rest]; omega
def sLo (ss : Nat → SV) (c : Nat) : Int := (ss c).lo
def sHi (ss : Nat → SV) (c : Nat) : Int := (ss c).hi
def canB (n : Nat) (ss : Nat → SV) (m : Nat) (bs : Nat → BM) (r : Nat) (sums : Nat → Int) : Bool :=
 allUpto m (fun i => !(decide ((bs i).hi < sums i + rest n (bs i) (sLo ss) r) || decide (sums i + rest n (bs i) (sHi ss) r < (bs i).lo)))
def sumsOf (bs : Nat → BM) (pre : List Int) (i : Nat) : Int := preSum (bs i) (fOf pre) pre.length
def visF (n : Nat) (ss : Nat → SV) (m : Nat) (bs : Nat → BM) : Nat → List Int → List (List Int)
 | 0, pre => if canB n ss m bs 0 (sumsOf bs pre) = true then [pre] else []
 | r + 1, pre => if canB n ss m bs (r + 1) (sumsOf bs pre) = true then (dens (ss (n - (r + 1)))).flatMap (fun d => visF n ss m bs r (pre ++ [d])) else []
theorem Shape.w {n m : Nat} {ss : Nat → SV} {bs : Nat → BM} (h : Shape n ss m bs) {i : Nat} (hi : i < m) (c : Nat) : 0 ≤ (bs i).w c ∧ (bs i).w c ≤ 1000000 := wUp_pos _ (fun j hj => h.weight i hi j hj) c
theorem preSum_congr {b : BM} {f g : Nat → Int} {c : Nat} (h : ∀ i, i < c → f i = g i) : preSum b f c = preSum b g c := sumN_congr c (fun i hi => by rw [h i hi])
theorem fOf_prefix {pre g : List Int} (h : pre <+: g) {c : Nat} (hc : c < pre.length) : fOf pre c = fOf g c := by
 obtain ⟨t, rfl⟩ := h
 rw [fOf, fOf, List.getD_eq_getElem?_getD, List.getD_eq_getElem?_getD, List.getElem?_append_left hc]
theorem can_of_agrees {n m : Nat} {ss : Nat → SV} {bs : Nat → BM} (hS : Shape n ss m bs) {r : Nat} {pre g : List Int} (hr : r ≤ n) (hp : pre.length = n - r) (hpg : pre <+: g) (ha : agreesB m bs (fOf g) = true) (hb : ∀ c, n - r ≤ c → c < n → (ss c).lo ≤ fOf g c ∧ fOf g c ≤ (ss c).hi) : canB n ss m bs r (sumsOf bs pre) = true := by
 simp only [canB, allUpto_iff]
 intro i hi
 have h1 := allUpto_iff.1 ha i hi
 rw [inB_iff, ofN_dense (hS.set i hi)] at h1
 have h2 : sumsOf bs pre i = preSum (bs i) (fOf g) (n - r) := by
  unfold sumsOf
  rw [hp]
  exact preSum_congr (fun c hc => fOf_prefix hpg (by omega))
 have h3 := rest_sum (b := bs i) (f := fOf g) r hr
 have h4 := rest_le (n := n) (b := bs i) (f := sLo ss) (g := fOf g) (fun c => (hS.w hi c).1) r hr (fun c h1 h2 => (hb c h1 h2).1)
 have h5 := rest_le (n := n) (b := bs i) (f := fOf g) (g := sHi ss) (fun c => (hS.w hi c).1) r hr (fun c h1 h2 => (hb c h1 h2).2)
 have h6 : preSum (bs i) (fOf g) n = sumN (fun c => (bs i).w c * fOf g c) n := rfl
 rw [h2]
 simp only [Bool.not_eq_true', Bool.or_eq_false_iff]
 exact ⟨decide_eq_false (by omega), decide_eq_false (by omega)⟩
theorem can_end {n m : Nat} {ss : Nat → SV} {bs : Nat → BM} (hS : Shape n ss m bs) {pre : List Int} (hp : pre.length = n) : canB n ss m bs 0 (sumsOf bs pre) = agreesB m bs (fOf pre) := by
 rw [Bool.eq_iff_iff]
 simp only [canB, agreesB, allUpto_iff]
 have key : ∀ i, i < m → ofN (bs i) (fOf pre) = sumsOf bs pre i := fun i hi => by
  rw [ofN_dense (hS.set i hi), sumsOf, hp]; rfl
 constructor
 ·intro h i hi
  have := h i hi
  rw [inB_iff, key i hi]
  simp only [rest, Bool.not_eq_true', Bool.or_eq_false_iff, decide_eq_false_iff_not] at this
  have t1 := of_decide_eq_false this.1
  have t2 := of_decide_eq_false this.2
  omega
 ·intro h i hi
  have := h i hi
  rw [inB_iff, key i hi] at this
  simp only [rest, Bool.not_eq_true', Bool.or_eq_false_iff]
  exact ⟨decide_eq_false (by omega), decide_eq_false (by omega)⟩
theorem visF_eq {n m : Nat} {ss : Nat → SV} {bs : Nat → BM} (hS : Shape n ss m bs) : ∀ r pre, r ≤ n → pre.length = n - r → visF n ss m bs r pre = enumF n ss (fun f => agreesB m bs (fOf f)) r pre
 | 0, pre, hr, hp => by
  rw [visF, enumF, can_end hS (by omega)]
 | r + 1, pre, hr, hp => by
  have ih : ∀ d, visF n ss m bs r (pre ++ [d]) = enumF n ss (fun f => agreesB m bs (fOf f)) r (pre ++ [d]) := fun d => visF_eq hS r (pre ++ [d]) (by omega) (by simp; omega)
  rw [visF]
  cases hc : canB n ss m bs (r + 1) (sumsOf bs pre)
  ·rw [if_neg (by simp)]
   symm
   rw [List.eq_nil_iff_forall_not_mem]
   intro g hg
   obtain ⟨h1, h2, h3, h4⟩ := (enumF_mem (r + 1) pre g hr hp).1 hg
   rw [can_of_agrees hS hr hp h3 h1 h4] at hc
   cases hc
  ·rw [if_pos rfl, enumF]
   simp only [ih]
theorem vis_all {n m : Nat} {ss : Nat → SV} {bs : Nat → BM} (hS : Shape n ss m bs) : visF n ss m bs n [] = allF n ss m bs := visF_eq hS n [] (Nat.le_refl _) (by simp)
end Go.Proofs.YtgmpelhphnmknaaGreat
namespace Go.Proofs.YtgmpelhphnmknaaGreat
open Go.RowKit
def Rests (R : Nat → Prop) (W W' : World) : Prop := ∀ b, R b → W'.heap[b]? = W.heap[b]?
theorem Rests.cell {R : Nat → Prop} {W W' : World} (h : Rests R W W') {b o : Nat} (hb : R b) : W'.cell? ⟨b, o, none⟩ = W.cell? ⟨b, o, none⟩ := World.cell?_of_block (h b hb)
theorem Rests.trans {R : Nat → Prop} {A B C : World} (h : Rests R A B) (k : Rests R B C) : Rests R A C := fun b hb => (k b hb).trans (h b hb)
theorem Rests.below {R : Nat → Prop} {W W' : World} {B : Nat} (h : Below B W W') (hR : ∀ b, R b → b < B) : Rests R W W' := fun b hb => h.block b (hR b hb)
def IntsR (R : Nat → Prop) (w : World) (a : Option Addr) (n : Nat) (xs : Nat → Int) : Prop :=
 n = 0 ∨ ∃ b off, a = some ⟨b, off, none⟩ ∧ R b ∧ b < w.heap.size ∧ ∀ i, i < n → w.cell? ⟨b, off + i, none⟩ = some (.int .i64 (xs i))
theorem IntsR.rests {R : Nat → Prop} {w w' : World} {a : Option Addr} {n : Nat} {xs : Nat → Int} (h : IntsR R w a n xs) (hr : Rests R w w') (hz : w.heap.size ≤ w'.heap.size) : IntsR R w' a n xs := by
 rcases h with h | ⟨b, off, ha, hB, hz2, hc⟩
 ·exact .inl h
 ·exact .inr ⟨b, off, ha, hB, by omega, fun i hi => (hr.cell hB).trans (hc i hi)⟩
theorem IntsR.get {R : Nat → Prop} {w : World} {a : Option Addr} {n : Nat} {xs : Nat → Int} (h : IntsR R w a n xs) {i : Nat} (hi : i < n) : ∃ b off, a = some ⟨b, off, none⟩ ∧ R b ∧ b < w.heap.size ∧ w.cell? ⟨b, off + i, none⟩ = some (.int .i64 (xs i)) := by
 rcases h with h | ⟨b, off, ha, hB, hz, hc⟩
 ·omega
 ·exact ⟨b, off, ha, hB, hz, hc i hi⟩
theorem IntsR.ints {R : Nat → Prop} {w : World} {a : Option Addr} {n : Nat} {xs : Nat → Int} (h : IntsR R w a n xs) : Ints w.heap.size w a n xs := by
 rcases h with h | ⟨b, off, ha, hB, hz, hc⟩
 ·exact .inl h
 ·exact .inr ⟨b, off, ha, hz, hc⟩
theorem Ints.inR {R : Nat → Prop} {B : Nat} {w : World} {a : Option Addr} {n : Nat} {xs : Nat → Int} (h : Ints B w a n xs) (hR : ∀ b, b < B → R b) (hB : B ≤ w.heap.size) : IntsR R w a n xs := by
 rcases h with h | ⟨b, off, ha, hb, hc⟩
 ·exact .inl h
 ·exact .inr ⟨b, off, ha, hR b hb, by omega, hc⟩
def SpansR (R : Nat → Prop) (w : World) (a : Option Addr) (n : Nat) (ss : Nat → SV) : Prop :=
 n = 0 ∨ ∃ b off, a = some ⟨b, off, none⟩ ∧ R b ∧ b < w.heap.size ∧ ∀ i, i < n → w.cell? ⟨b, off + i * 2, none⟩ = some (.int .i64 (ss i).lo) ∧ w.cell? ⟨b, off + i * 2 + 1, none⟩ = some (.int .i64 (ss i).hi)
theorem SpansR.rests {R : Nat → Prop} {w w' : World} {a : Option Addr} {n : Nat} {ss : Nat → SV} (h : SpansR R w a n ss) (hr : Rests R w w') (hz : w.heap.size ≤ w'.heap.size) : SpansR R w' a n ss := by
 rcases h with h | ⟨b, off, ha, hB, hz2, hc⟩
 ·exact .inl h
 ·exact .inr ⟨b, off, ha, hB, by omega, fun i hi => ⟨(hr.cell hB).trans (hc i hi).1, (hr.cell hB).trans (hc i hi).2⟩⟩
theorem SpansR.get {R : Nat → Prop} {w : World} {a : Option Addr} {n : Nat} {ss : Nat → SV} (h : SpansR R w a n ss) {i : Nat} (hi : i < n) : ∃ b off, a = some ⟨b, off, none⟩ ∧ R b ∧ b < w.heap.size ∧ w.cell? ⟨b, off + i * 2, none⟩ = some (.int .i64 (ss i).lo) ∧ w.cell? ⟨b, off + i * 2 + 1, none⟩ = some (.int .i64 (ss i).hi) := by
 rcases h with h | ⟨b, off, ha, hB, hz, hc⟩
 ·omega
 ·exact ⟨b, off, ha, hB, hz, (hc i hi).1, (hc i hi).2⟩
theorem Spans.inR {R : Nat → Prop} {B : Nat} {w : World} {a : Option Addr} {n : Nat} {ss : Nat → SV} (h : Spans B w a n ss) (hR : ∀ b, b < B → R b) (hB : B ≤ w.heap.size) : SpansR R w a n ss := by
 rcases h.2 with h | ⟨b, off, ha, hb, hc⟩
 ·exact .inl h
 ·exact .inr ⟨b, off, ha, hR b hb, by omega, hc⟩
def BeamsR (R : Nat → Prop) (w : World) (a : Option Addr) (m : Nat) (bs : Nat → BM) : Prop :=
 m = 0 ∨ ∃ b off, a = some ⟨b, off, none⟩ ∧ R b ∧ b < w.heap.size ∧ ∀ i, i < m → (bs i).at w b (off + i * 4)
theorem BeamsR.rests {R : Nat → Prop} {w w' : World} {a : Option Addr} {m : Nat} {bs : Nat → BM} (h : BeamsR R w a m bs) (hr : Rests R w w') (hz : w.heap.size ≤ w'.heap.size) : BeamsR R w' a m bs := by
 rcases h with h | ⟨b, off, ha, hB, hz2, hc⟩
 ·exact .inl h
 ·refine .inr ⟨b, off, ha, hB, by omega, fun i hi => ?_⟩
  obtain ⟨h0, h1, h2, h3⟩ := hc i hi
  exact ⟨(hr.cell hB).trans h0, (hr.cell hB).trans h1, (hr.cell hB).trans h2, (hr.cell hB).trans h3⟩
theorem BeamsR.get {R : Nat → Prop} {w : World} {a : Option Addr} {m : Nat} {bs : Nat → BM} (h : BeamsR R w a m bs) {i : Nat} (hi : i < m) : ∃ b off, a = some ⟨b, off, none⟩ ∧ R b ∧ b < w.heap.size ∧ (bs i).at w b (off + i * 4) := by
 rcases h with h | ⟨b, off, ha, hB, hz, hc⟩
 ·omega
 ·exact ⟨b, off, ha, hB, hz, hc i hi⟩
theorem Beams.inR {R : Nat → Prop} {B : Nat} {w : World} {a : Option Addr} {m : Nat} {bs : Nat → BM} (h : Beams B w a m bs) (hR : ∀ b, b < B → R b) (hB : B ≤ w.heap.size) : BeamsR R w a m bs := by
 rcases h.2 with h | ⟨b, off, ha, hb, hc⟩
 ·exact .inl h
 ·exact .inr ⟨b, off, ha, hR b hb, by omega, fun i hi => (hc i hi).1⟩
def RowsR (R : Nat → Prop) (w : World) (a : Option Addr) (k n : Nat) (xs : Nat → Nat → Int) : Prop :=
 k = 0 ∨ ∃ b off, a = some ⟨b, off, none⟩ ∧ R b ∧ b < w.heap.size ∧ ∀ i, i < k → ∃ ra rc, w.cell? ⟨b, off + i, none⟩ = some (.slice ra n rc) ∧ IntsR R w ra n (xs i)
theorem RowsR.rests {R : Nat → Prop} {w w' : World} {a : Option Addr} {k n : Nat} {xs : Nat → Nat → Int} (h : RowsR R w a k n xs) (hr : Rests R w w') (hz : w.heap.size ≤ w'.heap.size) : RowsR R w' a k n xs := by
 rcases h with h | ⟨b, off, ha, hB, hz2, hc⟩
 ·exact .inl h
 ·refine .inr ⟨b, off, ha, hB, by omega, fun i hi => ?_⟩
  obtain ⟨ra, rc, h1, h2⟩ := hc i hi
  exact ⟨ra, rc, (hr.cell hB).trans h1, h2.rests hr hz⟩
theorem RowsR.get {R : Nat → Prop} {w : World} {a : Option Addr} {k n : Nat} {xs : Nat → Nat → Int} (h : RowsR R w a k n xs) {i : Nat} (hi : i < k) : ∃ b off ra rc, a = some ⟨b, off, none⟩ ∧ R b ∧ b < w.heap.size ∧ w.cell? ⟨b, off + i, none⟩ = some (.slice ra n rc) ∧ IntsR R w ra n (xs i) := by
 rcases h with h | ⟨b, off, ha, hB, hz, hc⟩
 ·omega
 ·obtain ⟨ra, rc, h1, h2⟩ := hc i hi
  exact ⟨b, off, ra, rc, ha, hB, hz, h1, h2⟩
def RowsS (R : Nat → Prop) (w : World) (a : Option Addr) (k n : Nat) (xs : Nat → Nat → SV) : Prop :=
 k = 0 ∨ ∃ b off, a = some ⟨b, off, none⟩ ∧ R b ∧ b < w.heap.size ∧ ∀ i, i < k → ∃ ra rc, w.cell? ⟨b, off + i, none⟩ = some (.slice ra n rc) ∧ SpansR R w ra n (xs i)
theorem RowsS.rests {R : Nat → Prop} {w w' : World} {a : Option Addr} {k n : Nat} {xs : Nat → Nat → SV} (h : RowsS R w a k n xs) (hr : Rests R w w') (hz : w.heap.size ≤ w'.heap.size) : RowsS R w' a k n xs := by
 rcases h with h | ⟨b, off, ha, hB, hz2, hc⟩
 ·exact .inl h
 ·refine .inr ⟨b, off, ha, hB, by omega, fun i hi => ?_⟩
  obtain ⟨ra, rc, h1, h2⟩ := hc i hi
  exact ⟨ra, rc, (hr.cell hB).trans h1, h2.rests hr hz⟩
theorem RowsS.get {R : Nat → Prop} {w : World} {a : Option Addr} {k n : Nat} {xs : Nat → Nat → SV} (h : RowsS R w a k n xs) {i : Nat} (hi : i < k) : ∃ b off ra rc, a = some ⟨b, off, none⟩ ∧ R b ∧ b < w.heap.size ∧ w.cell? ⟨b, off + i, none⟩ = some (.slice ra n rc) ∧ SpansR R w ra n (xs i) := by
 rcases h with h | ⟨b, off, ha, hB, hz, hc⟩
 ·omega
 ·obtain ⟨ra, rc, h1, h2⟩ := hc i hi
  exact ⟨b, off, ra, rc, ha, hB, hz, h1, h2⟩
def restS (n : Nat) (ss : Nat → SV) (b : BM) (c : Nat) : SV := ⟨rest n b (sLo ss) (n - c), rest n b (sHi ss) (n - c)⟩
structure SearchAt (R : Nat → Prop) (n : Nat) (ss : Nat → SV) (m : Nat) (bs : Nat → BM) (sp : Nat) (W : World) : Prop where
 own : R sp
 lt : sp < W.heap.size
 img : ∃ ca cc ba bc wa wc ra rc, W.cell? ⟨sp, 0, none⟩ = some (.slice ca n cc) ∧ W.cell? ⟨sp, 1, none⟩ = some (.slice ba m bc) ∧ W.cell? ⟨sp, 2, none⟩ = some (.slice wa m wc) ∧ W.cell? ⟨sp, 3, none⟩ = some (.slice ra m rc) ∧
  SpansR R W ca n ss ∧ BeamsR R W ba m bs ∧ RowsR R W wa m n (fun i => (bs i).w) ∧ RowsS R W ra m (n + 1) (fun i => restS n ss (bs i))
theorem SearchAt.rests {R : Nat → Prop} {n : Nat} {ss : Nat → SV} {m : Nat} {bs : Nat → BM} {sp : Nat} {W W' : World} (h : SearchAt R n ss m bs sp W) (hr : Rests R W W') (hz : W.heap.size ≤ W'.heap.size) : SearchAt R n ss m bs sp W' := by
 obtain ⟨ca, cc, ba, bc, wa, wc, ra, rc, h0, h1, h2, h3, h4, h5, h6, h7⟩ := h.img
 exact ⟨h.own, by have := h.lt; omega, ca, cc, ba, bc, wa, wc, ra, rc, (hr.cell h.own).trans h0, (hr.cell h.own).trans h1, (hr.cell h.own).trans h2, (hr.cell h.own).trans h3, h4.rests hr hz, h5.rests hr hz, h6.rests hr hz, h7.rests hr hz⟩
def IR (t : TypeId) (W : World) (b m : Nat) (f : Nat → Int) : Prop := ∃ cur, W.heap[b]? = some (.cells cur t) ∧ cur.size = m ∧ ∀ j, j < m → cur[j]? = some (.int .i64 (f j))
section
variable {t : TypeId} {W W' : World} {b m : Nat} {f : Nat → Int}
theorem IR.lt (h : IR t W b m f) : b < W.heap.size := by obtain ⟨cur, h1, _⟩ := h; exact (blkL h1)
theorem IR.cell (h : IR t W b m f) {j : Nat} (hj : j < m) : W.cell? ⟨b, j, none⟩ = some (.int .i64 (f j)) := by
 obtain ⟨cur, h1, _, h2⟩ := h
 exact (cell_of_row _ _ _ _ _ _ h1).trans (h2 j hj)
theorem IR.frozen (h : IR t W b m f) (j : Nat) : W.frozen? ⟨b, j, none⟩ = false := by
 obtain ⟨cur, h1, _, h2⟩ := h
 exact frozen_of_row _ _ _ _ _ h1
theorem IR.block (h : IR t W b m f) (hb : W'.heap[b]? = W.heap[b]?) : IR t W' b m f := by
 obtain ⟨cur, h1, h2, h3⟩ := h
 exact ⟨cur, hb.trans h1, h2, h3⟩
theorem IR.step (h : IR t W b m f) (hb : Below W.heap.size W W') : IR t W' b m f := h.block (hb.block b h.lt)
theorem IR.alloc (h : IR t W b m f) (o : Obj) : IR t (W.alloc o) b m f := h.block (Below.heap_alloc W o b h.lt)
theorem IR.set (h : IR t W b m f) {i : Nat} (hi : i < m) (x : Int) : IR t (W.setCell ⟨b, i, none⟩ (.int .i64 x)) b m (fun j => if j = i then x else f j) := by
 obtain ⟨cur, h1, h2, h3⟩ := h
 refine ⟨cur.setIfInBounds i (.int .i64 x), heap_setCell_same W b i _ _ _ h1, by simpa using h2, fun j hj => ?_⟩
 by_cases e : j = i
 ·subst e
  rw [Array.getElem?_setIfInBounds_self_of_lt (by omega)]
  simp
 ·rw [Array.getElem?_setIfInBounds_ne (Ne.symm e), h3 j hj]
  simp [e]
theorem IR.other (h : IR t W b m f) {x j : Nat} (hn : x ≠ b) (u : Value) : IR t (W.setCell ⟨x, j, none⟩ u) b m f := h.block (heap_setCell_other W ⟨x, j, none⟩ b u (Ne.symm hn))
theorem IR.congr {g : Nat → Int} (h : IR t W b m f) (e : ∀ j, j < m → f j = g j) : IR t W b m g := by
 obtain ⟨cur, h1, h2, h3⟩ := h
 exact ⟨cur, h1, h2, fun j hj => by rw [← e j hj]; exact h3 j hj⟩
theorem IR.made (W : World) (t : TypeId) (m : Nat) : IR t (W.alloc (.cells (madeCells #[.int .i64 0] m) t)) W.heap.size m (fun _ => 0) := by
 have e : (madeCells #[Value.int .i64 0] m).toList = List.replicate m (.int .i64 0) := toList_madeCells_one _ _
 refine ⟨_, heap_alloc_new W _, ?_, fun j hj => ?_⟩
 ·have := congrArg List.length e
  simpa using this
 ·rw [← Array.getElem?_toList, e]
  simp [hj]
theorem IR.intsR {R : Nat → Prop} (h : IR t W b m f) (hR : R b) : IntsR R W (some ⟨b, 0, none⟩) m f := .inr ⟨b, 0, rfl, hR, h.lt, fun i hi => by rw [Nat.zero_add]; exact h.cell hi⟩
end
end Go.Proofs.YtgmpelhphnmknaaGreat
namespace Go.Proofs.YtgmpelhphnmknaaGreat
open Go Go.RowKit
section
variable {P : Program} {ops : Array Oper} {md : Region.Mode} {C : World → Prop}
def headQ (P : Program) (md : Region.Mode) (ops : Array Oper) (C : World → Prop) (n : Nat) (L : Array Bool → Act → Prop) : Nat → Array Bool → Act → Prop
 | 0, listed, a => L listed a
 | f + 1, listed, a => Region.ready md ops listed ≠ [] ∧ ∀ i ∈ Region.ready md ops listed, i < n ∧ qOp P ops C i (headQ P md ops C n L f (listed.setIfInBounds i true)) a
theorem any_of_headQ {n g : Nat} {L : Array Bool → Act → Prop} {Q' : Exit → Act → World → Prop} (hL : ∀ listed a w, C w → L listed a → wpAny P md ops Q' g listed a w) :
  ∀ (f : Nat) (listed : Array Bool) (a : Act) (w : World), C w → headQ P md ops C n L f listed a → wpAny P md ops Q' (f + g) listed a w
 | 0, listed, a, w, hw, h => by rw [Nat.zero_add]; exact hL _ _ _ hw h
 | f + 1, listed, a, w, hw, h => by
  rw [show f + 1 + g = (f + g) + 1 by omega]
  exact ⟨fun h0 => absurd h0 h.1, fun i hi => wpOp_of_qOp hw (fun a' w' hw' h' => any_of_headQ hL f _ a' w' hw' h') (h.2 i hi).2⟩
theorem headQ_first {n i : Nat} {oi : Oper} {v : Value} {L : Array Bool → Act → Prop} (hi : ops[i]? = some oi) (hsel : ∀ (j : Nat) (o : Oper) cs b, ops[j]? = some o → o.op ≠ .select cs b)
  (hs : Region.sinkB md ops n = true) (hc : Region.chainB md ops n = true) (hn : n < ops.size) (hin : i < n)
  (hdone : ∀ listed a, L listed a → ∀ j ∈ Region.ready md ops listed, n ≤ j) :
  ∀ (f : Nat) (listed : Array Bool) (a : Act), HeadInv md ops n listed →
   (∀ j oj, ops[j]? = some oj → j ≠ i → listed.getD j true = false → (∀ e ∈ oj.after, Region.binds md e = true → e.on ≠ i) → oi.apart ops oj = true) →
   i ∈ Region.ready md ops listed → YieldsIn P ops C oi v a →
   headQ P md ops C n L f (listed.setIfInBounds i true) (a.put oi.dst v) → headQ P md ops C n L (f + 1) listed a := by
 have inside : ∀ (listed : Array Bool), HeadInv md ops n listed → i ∈ Region.ready md ops listed → ∀ j ∈ Region.ready md ops listed, j < n := fun listed inv hr j hj => by
  rcases Nat.lt_or_ge j n with h | h
  ·exact h
  ·exact absurd hj (tail_waits hs hc hn inv _ i rfl hin (mem_ready.1 hr).1 j h)
 have nonempty : ∀ (listed : Array Bool), i ∈ Region.ready md ops listed → Region.ready md ops listed ≠ [] := fun listed hr h => by rw [h] at hr; cases hr
 intro f
 induction f with
 | zero =>
  intro listed a inv _ hr hy H
  refine ⟨nonempty _ hr, fun j hj => ⟨inside _ inv hr j hj, ?_⟩⟩
  by_cases hji : j = i
  ·subst hji; exact hy.qOp hi H
  ·have := hdone _ _ H j (ready_mono hj hji)
   have := inside _ inv hr j hj
   omega
 | succ f ih =>
  intro listed a inv hfree hr hy H
  refine ⟨nonempty _ hr, fun j hj => ?_⟩
  have hjn := inside _ inv hr j hj
  refine ⟨hjn, ?_⟩
  by_cases hji : j = i
  ·subst hji; exact hy.qOp hi H
  ·obtain ⟨hjun, oj, hoj, hall⟩ := mem_ready.1 hj
   have hnot : ∀ e ∈ oj.after, Region.binds md e = true → e.on ≠ i := fun e he hb heq => by
    have h1 := hall e he hb
    rw [heq, getD_both (mem_ready.1 hr).1] at h1
    cases h1
   have h2 := qOp_put hoj (hfree j oj hoj hji hjun hnot) (fun cs b => hsel i oi cs b hi) (fun cs b => hsel j oj cs b hoj) hy (H.2 j (ready_mono hj hji)).2
   refine qOp_mono (fun a' h3 => ih (listed.setIfInBounds j true) a' (inv.set hj hjn) ?_ (ready_mono hr (Ne.symm hji)) h3.1 ?_) h2
   ·intro k ok hk hki hun hno
    refine hfree k ok hk hki ?_ hno
    by_cases hjk : j = k
    ·subst hjk; exact hjun
    ·rw [getD_set_ne true hjk] at hun; exact hun
   ·rw [Array.setIfInBounds_comm _ _ hji]
    exact h3.2
theorem headQ_lex {n g : Nat} {Lq : Act → Prop} (hsel : Region.noSelect ops = true) (hs : Region.sinkB md ops n = true) (hc : Region.chainB md ops n = true) (hn : n < ops.size) :
  ∀ (l : List Oper) (k : Nat) (listed : Array Bool) (a : Act), (∀ j, j < l.length → l[j]? = ops[k + j]?) → k + l.length = n → HeadInv md ops n listed →
  Region.lexHead md ops g l.length k listed = true → wpQuiet P ops C Lq l a →
  headQ P md ops C n (fun listed' a' => Region.seqB md ops g n listed' = true ∧ Lq a') l.length listed a
 | [], k, listed, a, _, hk, _, hB, h => by
  have : k = n := by simpa using hk
  subst this
  exact ⟨by simpa [Region.lexHead] using hB, h⟩
 | o :: l, k, listed, a, hl, hk, inv, hB, h => by
  have h0 : ops[k]? = some o := by simpa using (hl 0 (by simp)).symm
  simp only [List.length_cons, Region.lexHead, Bool.and_eq_true] at hB
  obtain ⟨⟨hr, hf⟩, hB'⟩ := hB
  have hkn : k < n := by simp only [List.length_cons] at hk; omega
  have hr' : k ∈ Region.ready md ops listed := by simpa using hr
  have hst : qOp P ops C k (wpQuiet P ops C Lq l) a := by unfold qOp; simp only [h0]; exact h
  obtain ⟨v, hy, hK⟩ := yieldsIn_of_qOp h0 hst
  exact headQ_first h0 (Region.noSelect_spec hsel) hs hc hn hkn (fun listed' a' hL => seqB_ready hL.1) l.length listed a inv (Region.free_spec h0 hf) hr' hy
   (headQ_lex hsel hs hc hn l (k + 1) _ _ (fun j hj => by have := hl (j + 1) (by simp; omega); simpa [Nat.add_assoc, Nat.add_comm 1 j] using this) (by simp only [List.length_cons] at hk; omega) (inv.set hr' hkn) hB' hK)
theorem wp_region_quiet_tail {id : Nat} {Q : Exit → Act → World → Prop} {a : Act} {w : World} {l : List Oper} (n : Nat) (hm : P.follows .mixedOrders = true) (hB : Region.lexTailB .any l.toArray n = true) (hC : C { w with drawn := w.drawn + 1 })
  (h : wpQuiet P l.toArray C (fun a' => ∀ w', C w' → wpList P l.toArray Q (l.drop n) a' w') (l.take n) a) : (Code.region id l.toArray true).wp P Q a w := by
 simp only [Region.lexTailB, Bool.and_eq_true, decide_eq_true_eq] at hB
 obtain ⟨⟨⟨⟨hsel, hn⟩, hs⟩, hc⟩, hlex⟩ := hB
 have hn' : n < l.length := by simpa using hn
 have htl : (l.take n).length = n := by simp; omega
 have hdl : (l.drop n).length = l.toArray.size - n := by simp
 have inv0 : HeadInv .any l.toArray n (Array.replicate l.toArray.size false) :=
  ⟨by simp, fun j oj _ hl => (by rw [getD_replicate_false] at hl; cases hl), fun t _ ht => getD_in (by simpa using ht) (getD_replicate_false _ _)⟩
 have H := headQ_lex (md := .any) (g := l.toArray.size - n) hsel hs hc hn (l.take n) 0 _ a (fun j hj => by
  have hj' : j < n := by rw [htl] at hj; exact hj
  simp [hj']) (by simpa using htl) inv0 (by rw [htl]; exact hlex) h
 refine wp_region_any hm ?_
 have := any_of_headQ (Q' := Q) (g := l.toArray.size - n) (fun listed a' w' hw' hL => by
  have := wpAny_of_seq (md := .any) (Q' := Q) (l.drop n) n listed a' w' (fun j => by simp [List.getElem?_drop]) (by rw [hdl]; exact hL.1) (hL.2 w' hw')
  rwa [hdl] at this) _ _ _ _ hC H
 rw [htl, show n + (l.toArray.size - n) = l.toArray.size by omega] at this
 exact this
end
theorem wp_region_calm_tail {P : Program} (B : Nat) (n : Nat) {id : Nat} {Q : Exit → Act → World → Prop} {a : Act} {w : World} {l : List Oper} (hm : P.follows .mixedOrders = true) (hB : Region.lexTailB .any l.toArray n = true)
  (h : wpQuiet P l.toArray (fun w' => ∃ x : Calm B w, w' = x.val) (fun a' => ∀ w', (∃ x : Calm B w, w' = x.val) → wpList P l.toArray Q (l.drop n) a' w') (l.take n) a) : (Code.region id l.toArray true).wp P Q a w :=
 wp_region_quiet_tail (C := fun w' => ∃ x : Calm B w, w' = x.val) n hm hB ⟨⟨w.drew, (Below.refl _ _).drew⟩, rfl⟩ h
end Go.Proofs.YtgmpelhphnmknaaGreat
namespace Go.Proofs.YtgmpelhphnmknaaGreat
open Go.RowKit
theorem in_any (a b c : Int) (w : World) :
  Calls Tryz.prog 49 #[.int .i64 a, .int .i64 b, .int .i64 c] w fun e w' => e = .returned (.bool (inB a b c)) ∧ w = w' := by
 by_cases h : b ≤ a
 ·go_enter Tryz.func49, Tryz.ntmps49
  go_wp2
  go_ret
  exact ⟨ret_bool (by unfold inB; rw [decide_eq_true h, Bool.true_and]), rfl⟩
 ·go_enter Tryz.func49, Tryz.ntmps49
  go_wp2
  go_ret
  exact ⟨ret_bool (by unfold inB; rw [decide_eq_false (by omega), Bool.false_and]), rfl⟩
theorem span_any (lo hi most : Int) (w : World) :
  Calls Tryz.prog 45 #[.agg #[.int .i64 lo, .int .i64 hi], .int .i64 most] w fun e w' => e = .returned (.bool (spanB ⟨lo, hi⟩ most)) ∧ Below w.heap.size w w' := by
 by_cases h : 0 ≤ lo
 ·by_cases h2 : lo ≤ hi
  ·go_enter Tryz.func45, Tryz.ntmps45
   go_wp2
   go_ret
   exact ⟨ret_bool (by unfold spanB inB; rw [decide_eq_true h, decide_eq_true h2]; rfl), (Below.refl _ _).alloc (Nat.le_refl _) _⟩
  ·go_enter Tryz.func45, Tryz.ntmps45
   go_wp2
   go_ret
   exact ⟨ret_bool (by unfold spanB inB; dsimp only; rw [decide_eq_false (p := lo ≤ hi) (by omega), Bool.and_false, Bool.false_and]), (Below.refl _ _).alloc (Nat.le_refl _) _⟩
 ·go_enter Tryz.func45, Tryz.ntmps45
  go_wp2
  go_ret
  exact ⟨ret_bool (by unfold spanB inB; dsimp only; rw [decide_eq_false (p := 0 ≤ lo) (by omega), Bool.false_and, Bool.false_and]), (Below.refl _ _).alloc (Nat.le_refl _) _⟩
theorem setB_no {n k i : Nat} {cs : Nat → Int} (hi : i < k) (h : setAt n cs i = false) : false = setB n k cs := (allUpto_false hi h).symm
theorem setB_end {n k i : Nat} {cs : Nat → Int} (hi : i = k) (h : ∀ j, j < i → setAt n cs j = true) : true = setB n k cs := by subst hi; exact (allUpto_true h).symm
abbrev LI (a : Option Addr) (n c : Nat) (ba : Option Addr) (m bc : Nat) (w wx : World) : Prop := wx.cell? ⟨w.heap.size, 0, none⟩ = some (.slice a n c) ∧ wx.cell? ⟨w.heap.size, 1, none⟩ = some (.slice ba m bc) ∧ w.heap.size < wx.heap.size ∧ Below w.heap.size w wx
theorem LI_step {a : Option Addr} {n c : Nat} {ba : Option Addr} {m bc : Nat} {w W wy : World} (h : LI a n c ba m bc w W) (hb : Below W.heap.size W wy) : LI a n c ba m bc w wy := by
 obtain ⟨h0, h1, h2, h3⟩ := h
 have c := (bcell hb).1
 exact ⟨(c _ _ h2).trans h0, (c _ _ h2).trans h1, by have := hb.size; omega, h3.trans (hb.mono h3.size)⟩
theorem LI_start {a : Option Addr} {n c : Nat} {ba : Option Addr} {m bc : Nat} {w : World} {t : TypeId} : LI a n c ba m bc w (w.alloc (.cells #[.slice a n c, .slice ba m bc] t)) :=
 ⟨cell_of_row _ _ _ _ _ _ (heap_alloc_new w _), cell_of_row _ _ _ _ _ _ (heap_alloc_new w _), by simp, (Below.refl _ _).alloc (Nat.le_refl _) _⟩
theorem set_any (a : Option Addr) (n c : Nat) (ba : Option Addr) (m bc : Nat) (ca : Option Addr) (k cc : Nat) (cs : Nat → Int) (w : World) (B : Nat) (hBw : B ≤ w.heap.size) (hn : n ≤ maxLen) (hk : k ≤ maxLen) (hC : Ints B w ca k cs) :
  Calls Tryz.prog 148 #[imageV a n c ba m bc, .slice ca k cc] w fun e w' => e = .returned (.bool (setB n k cs)) ∧ Below w.heap.size w w' := by
 unfold maxLen at hn hk
 have HC := Lib.hid hC
 clear hC
 go_enter Tryz.func148, Tryz.ntmps148
 go_wp2
 go_loopw [9] (fun t wr => ∃ i : Nat, i ≤ k ∧ t = .int .i64 (i : Int) ∧ (∀ j, j < i → setAt n cs j = true) ∧ Hid (LI a n c ba m bc w wr)) (fun t _ => k - (intOf t).toNat)
 case atStart => exact ⟨0, Nat.zero_le _, rfl, fun j h => by omega, Lib.hid LI_start⟩
 case round =>
  obtain ⟨i, hi, rfl, hall, HL⟩ := hrel
  have HALL := Lib.hid hall
  clear hall
  obtain ⟨l0, l1, l2, l3⟩ := HL.out
  by_cases hlt : i < k
  ·have hlt' : (i : Int) < (k : Int) := by omega
   obtain ⟨b, off, rfl, hbB, c0⟩ := (HC.out.below (l3.mono hBw)).get hlt
   have hbz : b < wr.heap.size := by omega
   cases h1 : inB (cs i) 0 ((n : Int) - 1)
   ·have HF := Hd (setB_no (n := n) hlt (by unfold setAt; rw [h1, Bool.false_and]))
    go_wp2_with (go_at_call 49; refine (in_any _ _ _ _).mono ?_; rintro e w' ⟨rfl, rfl⟩)
    go_ret
    exact ⟨ret_bool HF.out, l3⟩
   ·by_cases h0 : i = 0
    ·have HOK := Hd (show setAt n cs i = true by unfold setAt; rw [h1, Bool.true_and, Bool.or_eq_true]; exact .inl (by rw [beq_iff_eq]; exact h0))
     have h2 : decide (0 < i) = false := by simp; omega
     clear h0
     go_wp2_with (go_at_call 49; refine (in_any _ _ _ _).mono ?_; rintro e w' ⟨rfl, rfl⟩)
     go_roundw
     case rel => exact ⟨i + 1, by omega, by go_num, fun j hj => by (by_cases e : j = i; subst e; exact HOK.out; exact HALL.out j (by omega)), HL⟩
     case measure => simp [intOf]; omega
    ·obtain ⟨b2, off2, e2, _, d0⟩ := (HC.out.below (l3.mono hBw)).get (i := i - 1) (by omega)
     injection e2 with e2
     injection e2 with e2 e3
     subst e2 e3
     have h2 : decide (0 < i) = true := by simp; omega
     have i1 : (0 : Int) ≤ (i : Int) - 1 := by omega
     have i2 : ((i : Int) - 1).toNat = i - 1 := by omega
     have i4 : i - 1 < k := by omega
     by_cases h3 : cs (i - 1) < cs i
     ·have HOK := Hd (show setAt n cs i = true by unfold setAt; rw [h1, Bool.true_and, Bool.or_eq_true]; exact .inr (decide_eq_true h3))
      have h4 : decide (cs i ≤ cs (i - 1)) = false := decide_eq_false (by omega)
      clear h0
      go_wp2_with (go_at_call 49; refine (in_any _ _ _ _).mono ?_; rintro e w' ⟨rfl, rfl⟩)
      go_roundw
      case rel => exact ⟨i + 1, by omega, by go_num, fun j hj => by (by_cases e : j = i; subst e; exact HOK.out; exact HALL.out j (by omega)), HL⟩
      case measure => simp [intOf]; omega
     ·have HF := Hd (setB_no (n := n) hlt (by unfold setAt; rw [h1, Bool.true_and, Bool.or_eq_false_iff]; exact ⟨by rw [beq_eq_false_iff_ne]; exact h0, decide_eq_false h3⟩))
      have h4 : decide (cs i ≤ cs (i - 1)) = true := decide_eq_true (by omega)
      clear h0
      go_wp2_with (go_at_call 49; refine (in_any _ _ _ _).mono ?_; rintro e w' ⟨rfl, rfl⟩)
      go_ret
      exact ⟨ret_bool HF.out, l3⟩
  ·have hlt' : ¬ (i : Int) < (k : Int) := by omega
   go_wp2
   go_ret
   exact ⟨ret_bool (setB_end (by omega) HALL.out), l3⟩
theorem long_any (a : Option Addr) (n c : Nat) (ba : Option Addr) (m bc : Nat) (ss : Nat → SV) (most : Int) (w : World) (B : Nat) (hBw : B ≤ w.heap.size) (hS : Spans B w a n ss) (hr : ∀ i, i < n → 0 ≤ (ss i).lo ∧ (ss i).lo ≤ (ss i).hi ∧ (ss i).hi ≤ 1000) (hm : 1 ≤ most ∧ most ≤ 1000000) :
  Calls Tryz.prog 97 #[imageV a n c ba m bc, .int .i64 most] w fun e w' => e = .returned (.bool (longB n ss most)) ∧ Below w.heap.size w w' := by
 have hn := hS.1
 unfold maxLen at hn
 obtain ⟨m1, m2⟩ := hm
 have HS := Lib.hid hS
 have HR := Lib.hid hr
 have HP := Hd (fun k (hk : k ≤ n) => prodN_pos (ss := ss) k (fun i hi => (hr i (by omega)).2.1))
 have HM := Hd (fun k (hk : k ≤ n) => prodN_le (ss := ss) (k := k) (n := n) (fun i hi => (hr i hi).2.1) hk)
 have H0 := Hd (show prodN ss 0 = 1 from rfl)
 have H1 := Hd (fun k => show prodN ss (k + 1) = prodN ss k * ((ss k).hi - (ss k).lo + 1) from rfl)
 unfold longB
 generalize prodN ss = PN at *
 clear hS hr
 go_enter Tryz.func97, Tryz.ntmps97
 go_wp2
 go_loopw [5, 11] (fun s5 t wr => ∃ k : Nat, k ≤ n ∧ t = .int .i64 (k : Int) ∧ s5 = .int .i64 (PN k) ∧ PN k ≤ most ∧ Below w.heap.size w wr) (fun _ t _ => n - (intOf t).toNat)
 case atStart => exact ⟨0, Nat.zero_le _, rfl, by rw [H0.out], by rw [H0.out]; exact m1, (Below.refl _ _).alloc (Nat.le_refl _) _⟩
 case round =>
  obtain ⟨k, hk, rfl, rfl, hle, hb⟩ := hrel
  by_cases hlt : k < n
  ·have hlt' : (k : Int) < (n : Int) := by omega
   obtain ⟨b, off, rfl, hbB, c0, c1⟩ := (HS.out.below (hb.mono hBw)).get hlt
   have hz := hb.size
   have hbz : b < wr.heap.size := by omega
   obtain ⟨r1, r2, r3⟩ := HR.out k hlt
   have p1 := HP.out k hk
   obtain ⟨X, hX⟩ : ∃ X, X = PN k * ((ss k).hi - (ss k).lo + 1) := ⟨_, rfl⟩
   have x1 : 0 ≤ X := by rw [hX]; exact Int.mul_nonneg (by omega) (by omega)
   have x2 : X ≤ 1000000 * 1001 := by rw [hX]; exact Int.mul_le_mul (by omega) (by omega) (by omega) (by omega)
   have HX := Hd ((H1.out k).trans hX.symm)
   have hX2 := hX.symm
   clear hX
   by_cases hgt : most < X
   ·have HF := Hd (show true = decide (most < PN n) from (decide_eq_true (by have := HM.out (k + 1) hlt; rw [HX.out] at this; omega)).symm)
    go_wp2
    go_ret
    exact ⟨ret_bool HF.out, hb.alloc hb.size _⟩
   ·go_wp2
    go_roundw
    case rel => exact ⟨k + 1, by omega, by go_num, by rw [HX.out], by rw [HX.out]; omega, hb.alloc hb.size _⟩
    case measure => simp [intOf]; omega
  ·obtain rfl : k = n := by omega
   have hlt' : ¬ (k : Int) < (k : Int) := by omega
   have HF := Hd (show false = decide (most < PN k) from (decide_eq_false (by omega)).symm)
   go_wp2
   go_ret
   exact ⟨ret_bool HF.out, hb⟩
end Go.Proofs.YtgmpelhphnmknaaGreat
namespace Go.Proofs.YtgmpelhphnmknaaGreat
open Go.RowKit
theorem own_off {W : World} {base : Nat} {e t : TypeId} {s : Nat} {v : Value} {n : Nat} {xs : List Value} {g : Nat} {cur : Array Value} {f : Nat × Nat} (h : W.ownsRow base e s v n xs) (hg : W.heap[g]? = some (.cells cur t f)) (ht : e ≠ t) : v.ownBlock ≠ some g := by
 rcases h.2 with ⟨rfl, _⟩ | ⟨g', cap', cur', rfl, _, hg', _⟩
 ·simp [Value.ownBlock]
 ·simp only [Value.ownBlock, ne_eq, Option.some.injEq]
  intro e'
  subst e'
  rw [hg] at hg'
  injection hg' with hg'
  injection hg' with _ h _
  exact ht h.symm
theorem own_at {w : World} {base : Nat} {e : TypeId} {k : Nat} {a : Option Addr} {n m c : Nat} {xs : List Value} (h : w.ownsRow base e k (.slice a m c) n xs) (hn : 0 < n) : ∃ g, a = some ⟨g, 0, none⟩ ∧ base ≤ g ∧ g < w.heap.size := by
 obtain ⟨g, cap, hv, h1, h2⟩ := h.form hn
 injection hv with e1 e2 e3
 exact ⟨g, e1, h1, h2⟩

def SR (t : TypeId) (W : World) (b m : Nat) (f : Nat → SV) : Prop := ∃ cur, W.heap[b]? = some (.cells cur t) ∧ cur.size = m * 2 ∧ ∀ j, j < m → cur[j * 2]? = some (.int .i64 (f j).lo) ∧ cur[j * 2 + 1]? = some (.int .i64 (f j).hi)
section
variable {t : TypeId} {W W' : World} {b m : Nat} {f : Nat → SV}
theorem SR.lt (h : SR t W b m f) : b < W.heap.size := by obtain ⟨cur, h1, _⟩ := h; exact (blkL h1)
theorem SR.cell (h : SR t W b m f) {j : Nat} (hj : j < m) : W.cell? ⟨b, j * 2, none⟩ = some (.int .i64 (f j).lo) ∧ W.cell? ⟨b, j * 2 + 1, none⟩ = some (.int .i64 (f j).hi) := by
 obtain ⟨cur, h1, _, h2⟩ := h
 exact ⟨(cell_of_row _ _ _ _ _ _ h1).trans (h2 j hj).1, (cell_of_row _ _ _ _ _ _ h1).trans (h2 j hj).2⟩
theorem SR.frozen (h : SR t W b m f) (j : Nat) : W.frozen? ⟨b, j, none⟩ = false := by
 obtain ⟨cur, h1, _, h2⟩ := h
 exact frozen_of_row _ _ _ _ _ h1
theorem SR.block (h : SR t W b m f) (hb : W'.heap[b]? = W.heap[b]?) : SR t W' b m f := by
 obtain ⟨cur, h1, h2, h3⟩ := h
 exact ⟨cur, hb.trans h1, h2, h3⟩
theorem SR.step (h : SR t W b m f) (hb : Below W.heap.size W W') : SR t W' b m f := h.block (hb.block b h.lt)
theorem SR.alloc (h : SR t W b m f) (o : Obj) : SR t (W.alloc o) b m f := h.block (Below.heap_alloc W o b h.lt)
theorem SR.set (h : SR t W b m f) {i : Nat} (hi : i < m) (x y : Int) : SR t ((W.setCell ⟨b, i * 2, none⟩ (.int .i64 x)).setCell ⟨b, i * 2 + 1, none⟩ (.int .i64 y)) b m (fun j => if j = i then ⟨x, y⟩ else f j) := by
 obtain ⟨cur, h1, h2, h3⟩ := h
 refine ⟨(cur.setIfInBounds (i * 2) (.int .i64 x)).setIfInBounds (i * 2 + 1) (.int .i64 y), heap_setCell_same _ b _ _ _ _ (heap_setCell_same W b _ _ _ _ h1), by simpa using h2, fun j hj => ?_⟩
 by_cases e : j = i
 ·subst e
  refine ⟨?_, ?_⟩
  ·rw [Array.getElem?_setIfInBounds_ne (by omega), Array.getElem?_setIfInBounds_self_of_lt (by omega)]
   simp
  ·rw [Array.getElem?_setIfInBounds_self_of_lt (by simp; omega)]
   simp
 ·refine ⟨?_, ?_⟩
  ·rw [Array.getElem?_setIfInBounds_ne (by omega), Array.getElem?_setIfInBounds_ne (by omega), (h3 j hj).1]
   simp [e]
  ·rw [Array.getElem?_setIfInBounds_ne (by omega), Array.getElem?_setIfInBounds_ne (by omega), (h3 j hj).2]
   simp [e]
theorem SR.other (h : SR t W b m f) {x j : Nat} (hn : x ≠ b) (u : Value) : SR t (W.setCell ⟨x, j, none⟩ u) b m f := h.block (heap_setCell_other W ⟨x, j, none⟩ b u (Ne.symm hn))
theorem SR.congr {g : Nat → SV} (h : SR t W b m f) (e : ∀ j, j < m → f j = g j) : SR t W b m g := by
 obtain ⟨cur, h1, h2, h3⟩ := h
 exact ⟨cur, h1, h2, fun j hj => by rw [← e j hj]; exact h3 j hj⟩
theorem SR.spansR {R : Nat → Prop} (h : SR t W b m f) (hR : R b) : SpansR R W (some ⟨b, 0, none⟩) m f := .inr ⟨b, 0, rfl, hR, h.lt, fun i hi => by rw [Nat.zero_add]; exact h.cell hi⟩
theorem SR.made (W : World) (t : TypeId) (m : Nat) : SR t (W.alloc (.cells (madeCells #[.int .i64 0, .int .i64 0] (m * 2)) t)) W.heap.size m (fun _ => ⟨0, 0⟩) := by
 have e : ∀ j, j < m * 2 → (madeCells #[Value.int .i64 0, .int .i64 0] (m * 2))[j]? = some (.int .i64 0) := by
  intro j hj
  unfold madeCells
  simp [hj]
  have h := Nat.mod_lt j (show 0 < 2 by omega)
  have : j % 2 = 0 ∨ j % 2 = 1 := by omega
  rcases this with h | h <;> simp [h]
 refine ⟨_, heap_alloc_new W _, ?_, fun j hj => ⟨e _ (by omega), e _ (by omega)⟩⟩
 unfold madeCells
 simp
end
theorem info_int : (Tryz.prog.info? 3).map (fun i => (i.zero, i.size, i.bytes)) = some (some (.int .i64 0), 1, 8) := by kernel_rfl
theorem info_span : (Tryz.prog.info? 28).map (fun i => (i.zero, i.size, i.bytes)) = some (some (.agg #[.int .i64 0, .int .i64 0]), 2, 16) := by kernel_rfl
theorem info_ints : (Tryz.prog.info? 24).map (fun i => (i.zero, i.size, i.bytes)) = some (some (.slice none 0 0), 1, 24) := by kernel_rfl
theorem info_spans : (Tryz.prog.info? 25).map (fun i => (i.zero, i.size, i.bytes)) = some (some (.slice none 0 0), 1, 24) := by kernel_rfl
theorem make_ints (n : Nat) (hn : n ≤ 1000000) (W : World) : (Instr.makeSlice 24 (.int .i64 (n : Int)) (.int .i64 (n : Int))).run Tryz.prog W = .ok (.slice (some ⟨W.heap.size, 0, none⟩) n n) (W.alloc (.cells (madeCells #[.int .i64 0] n) 3)) := by
 obtain ⟨i0, hi, hz0, hz1, hz2⟩ := info_parts info_int
 have := run_make (P := Tryz.prog) W 24 3 i0 _ Tryz.underlying24 hi hz0 .i64 .i64 (n : Int) (n : Int) (by omega) (Int.le_refl _) (by rw [hz2]; omega) (by omega)
 rw [hz1, show (Value.int .i64 0).cells = #[.int .i64 0] from rfl] at this
 simpa using this
theorem make_spans (n : Nat) (hn : n ≤ 1000000) (W : World) : (Instr.makeSlice 25 (.int .i64 (n : Int)) (.int .i64 (n : Int))).run Tryz.prog W = .ok (.slice (some ⟨W.heap.size, 0, none⟩) n n) (W.alloc (.cells (madeCells #[.int .i64 0, .int .i64 0] (n * 2)) 28)) := by
 obtain ⟨i0, hi, hz0, hz1, hz2⟩ := info_parts info_span
 have := run_make (P := Tryz.prog) W 25 28 i0 _ Tryz.underlying25 hi hz0 .i64 .i64 (n : Int) (n : Int) (by omega) (Int.le_refl _) (by rw [hz2]; omega) (by omega)
 rw [hz1, show (Value.agg #[.int .i64 0, .int .i64 0]).cells = #[.int .i64 0, .int .i64 0] by kernel_rfl] at this
 simpa using this
end Go.Proofs.YtgmpelhphnmknaaGreat
