/- Texts put together: RkG0, ImSrch, ImMs, RegRound. -/
import Derived.Test.YtgmpelhphnmknaaGreatQaf
import Derived.Test.YtgmpelhphnmknaaGreatQai
import Derived.Test.YtgmpelhphnmknaaGreatQag
import Derived.Test.YtgmpelhphnmknaaGreatQab
import Derived.Test.YtgmpelhphnmknaaGreatQaa
import Derived.Sort.QuietIn
import Derived.Sort.QuietThIn
import Derived.RegionIn
set_option maxRecDepth 100000
set_option maxHeartbeats 8000000
set_option linter.unusedVariables false
set_option linter.unusedSimpArgs false
namespace Go.Proofs.YtgmpelhphnmknaaGreat
open Go.RowKit Go.Shelf
def LoopJ (R : Nat → Prop) (w0 : World) (N : Nat) (T : (Nat → Prop) → List Nat → World → Prop) (xs : List Nat) (O : Nat → Prop) (W : World) : Prop :=
 ∃ X, Mine R X O W ∧ T X xs W ∧ Below w0.heap.size w0 W ∧ (∀ b, O b → N ≤ b) ∧ (∀ b, X b → w0.heap.size ≤ b) ∧ N ≤ W.heap.size
theorem LoopJ.abide {R : Nat → Prop} {w0 : World} {N : Nat} (hN : w0.heap.size ≤ N) {T : (Nat → Prop) → List Nat → World → Prop} (hT : ∀ X xs W W', T X xs W → (∀ b, X b → W'.heap[b]? = W.heap[b]?) → T X xs W') : Abide (LoopJ R w0 N T) := by
 rintro xs O W O' W' ⟨X, hm, ht, hb, hO, hX, hz⟩ tn
 have hk : ∀ b, X b → W'.heap[b]? = W.heap[b]? := fun b hx => tn.block b (hm.lt hx) (hm.off b hx)
 refine ⟨X, ⟨fun b hx h1 => ?_, hm.rest, fun b hx => ?_⟩, hT _ _ _ _ ht hk, hb.trans (tn.below hb.size (fun b h1 => Nat.le_trans hN (hO b h1))), fun b h1 => ?_, hX, Nat.le_trans hz tn.size⟩
 ·rcases (tn.own b).1 h1 with h2 | h2
  ·exact hm.off b hx h2
  ·have := hm.lt hx; omega
 ·obtain ⟨o, h1, h2⟩ := hm.cells b hx
  exact ⟨o, (hk b hx).trans h1, h2⟩
 ·rcases (tn.own b).1 h1 with h2 | h2
  ·exact hO b h2
  ·omega
theorem LoopJ.booked {R : Nat → Prop} {w0 : World} {N B : Nat} (hB : w0.heap.size ≤ B) {T : (Nat → Prop) → List Nat → World → Prop} (hT : ∀ X xs W W', T X xs W → (∀ b, X b → W'.heap[b]? = W.heap[b]?) → T X xs W') : Booked B (LoopJ R w0 N T) := by
 rintro xs O W l o o' ⟨X, hm, ht, hb, hO, hX, hz⟩ hl ho hc
 have hne : ∀ b, X b → b ≠ l := fun b hx e => by
  obtain ⟨u, h1, h2⟩ := hm.cells b hx
  rw [e, ho] at h1
  injection h1 with h1
  rw [← h1, hc] at h2
  cases h2
 have hk : ∀ b, X b → (W.putObj l o').heap[b]? = W.heap[b]? := fun b hx => World.putObj_heap_other (hne b hx)
 exact ⟨X, ⟨hm.off, hm.rest, fun b hx => by
  obtain ⟨u, h1, h2⟩ := hm.cells b hx
  exact ⟨u, (hk b hx).trans h1, h2⟩⟩, hT _ _ _ _ ht hk, hb.trans ⟨rfl, rfl, rfl, by simp, fun b hbl => World.putObj_heap_other (by omega)⟩, hO, hX, by simpa using hz⟩
def roundPostJ (X : Nat → Prop) (T : (Nat → Prop) → List Nat → World → Prop) (Tx : Code → (Nat → Prop) → List Nat → World → Prop) (xs : List Nat) (W : World) : Exit → Act → World → Prop
 | .normal, _, W' => ∃ X', BodyStep X W W' X' ∧ T X' xs W'
 | .ret, _, W' => ∃ X', BodyStep X W W' X' ∧ Tx .ret X' xs W'
 | .exit id, _, W' => ∃ X', BodyStep X W W' X' ∧ Tx (.exit id) X' xs W'
 | .goto t, _, W' => ∃ X', BodyStep X W W' X' ∧ Tx (.goto t) X' xs W'
 | .panic _, _, _ => False
 | .outgrown, _, _ => False
theorem wp_cross {g : Operand} {ps : Array Tmp} {assign body : Code} {Q : Exit → Act → World → Prop} {a : Act} {w : World} (v : VO) (r : RY) (hv : v.Ok) (hr : r.Ok) (q : Nat) (hq : WkAt v r q w)
  (w0 : World) (hw : Below w0.heap.size w0 w) (hg : a.eval g = .func (.func 182) #[] #[.pointer (some ⟨q, 0, none⟩)]) (hps : ps.size = 1)
  (X0 : Nat → Prop) (hX0 : ∀ b, X0 b → w0.heap.size ≤ b ∧ b ≠ q ∧ ∃ o, w.heap[b]? = some o ∧ o.isCells = true)
  (T : (Nat → Prop) → List Nat → World → Prop) (hT : ∀ X xs W W', T X xs W → (∀ b, X b → W'.heap[b]? = W.heap[b]?) → T X xs W')
  (h0 : T X0 [] w) (a1 : Nat → Act)
  (hassign : ∀ (l : Nat) (x : Nat) (W : World) (K : Act → World → Prop), K (a1 x) W → assign.wpIn (Fence.wide.inRound l) 4 Tryz.prog (Exit.then K (fun _ _ _ => False)) { tmps := (ps.zip (enX v r x)).foldl (fun t (p, v) => t.setIfInBounds p v) a.tmps, defers := [] } W)
  (hbody : ∀ (l : Nat) (pre : List Nat) (x : Nat) (O X : Nat → Prop) (W : World), w.heap.size ≤ W.heap.size → Mine (fun b => b = q) X O W → T X pre W → Below w0.heap.size w0 W → WkAt v r q W → pre = List.range x → (∀ j, j ≤ x → 0 ≤ atF v r j) → body.wpIn (Fence.wide.inRound l) 4 Tryz.prog (roundPostJ X T (fun _ _ _ _ => False) (pre ++ [x]) W) (a1 x) W)
  (hdone : ∀ (D m : Nat) (X : Nat → Prop) (W : World), w.heap.size ≤ D → D < W.heap.size → ¬ X D → IsM v r m → T X (List.range (m + 1)) W → Below w0.heap.size w0 W → WkAt v r q W → W.heap[D]? = some (.deferred (some [])) → Q .normal { a with defers := { target := .collected D, args := #[] } :: a.defers } W) :
  (Code.rangeFunc g ps assign body).wp Tryz.prog Q a w := by
 refine (wpIn_wide (n := 6)).1 ?_
 have hN : w0.heap.size ≤ w.heap.size := hw.size
 have hR : ∀ b, b = q → b < w.heap.size := fun b h => by rw [h]; exact hq.lt
 let I : List Nat → (Nat → Prop) → World → Prop := fun xs O W => LoopJ (fun b => b = q) w0 w.heap.size T xs O W ∧ (((∀ b, b = q → W.heap[b]? = w.heap[b]?) ∧ w.heap.size ≤ W.heap.size) ∧ xs = List.range xs.length)
 let Ix : Code → List Nat → (Nat → Prop) → World → Prop := fun c xs O W => False
 have hRa : ∀ O W O' W', (∀ b, O b → w.heap.size ≤ b) → ((∀ b, b = q → W.heap[b]? = w.heap[b]?) ∧ w.heap.size ≤ W.heap.size) → Turn O W O' W' → (∀ b, b = q → W'.heap[b]? = w.heap[b]?) ∧ w.heap.size ≤ W'.heap.size := fun O W O' W' hO h tn =>
  ⟨fun b hb => (tn.block b (by have := hR b hb; omega) (fun h1 => by have := hO b h1; have := hR b hb; omega)).trans (h.1 b hb), Nat.le_trans h.2 tn.size⟩
 refine wpIn_range_own (P := Tryz.prog) (g := g) hg (enters_of Tryz.func182 (by kernel_rfl) rfl) (cross_seq v r hv hr q w hq) hR (Below.refl _ _) (fun x => by rw [hps]; rfl)
  (fun _ _ _ _ _ _ _ => trivial) I Ix ?hI (fun c => fun _ _ _ _ _ h _ => h) ?hIb (fun c => fun _ _ _ _ _ _ h _ _ _ => h) ?h0 (fun x a' O W => a' = a1 x) (fun _ _ _ _ _ _ h _ => h) ?hassign ?hbody ?hdone ?hstop
 case hI =>
  rintro xs O W O' W' ⟨h1, h2, hG⟩ tn
  obtain ⟨X, hm, ht, hb, hO, hX, hz⟩ := id h1
  exact ⟨LoopJ.abide hN hT _ _ _ _ _ h1 tn, hRa _ _ _ _ hO h2 tn, hG⟩
 case hIb =>
  rintro xs O W l o o' ⟨h1, h2, hG⟩ hl ho hc
  exact ⟨LoopJ.booked hw.size hT _ _ _ _ _ _ h1 hl ho hc, ⟨fun b hb => (World.putObj_heap_other (by have := hR b hb; omega)).trans (h2.1 b hb), by simpa using h2.2⟩, hG⟩
 case h0 =>
  intro W hb
  have hk : ∀ b, X0 b → W.heap[b]? = w.heap[b]? := fun b hx => by
   obtain ⟨_, _, o, h1, _⟩ := hX0 b hx
   exact hb.block b (blkL h1)
  exact ⟨⟨X0, ⟨fun b _ h => h, fun b hx => (hX0 b hx).2.1, fun b hx => by
   obtain ⟨_, _, o, h1, h2⟩ := hX0 b hx
   exact ⟨o, (hk b hx).trans h1, h2⟩⟩, hT _ _ _ _ h0 hk, hw.trans (hb.mono hw.size), fun b h => h.elim, fun b hx => (hX0 b hx).1, hb.size⟩, ⟨fun b h => hb.block b (hR b h), hb.size⟩, rfl⟩
 case hassign =>
  rintro l pre x O W K hz hO hI hsh hK
  exact hassign l x W K (hK _ _ (KeepsFrom.refl _ _) (Kept.refl _ _) hI rfl hsh)
 case hbody =>
  rintro l pre x a' O W hl hz hO ⟨⟨X, hm, ht, hb, hOn, hX, hzz⟩, ⟨hrr, hww⟩, hG⟩ rfl hsh hnx
  have hOl : ∀ b, O b → b < W.heap.size := fun b h => (hO b h).2
  have hRl : ∀ b, b = q → b < W.heap.size := fun b h => by have := hR b h; omega
  have hX' : ∀ W' X', BodyStep X W W' X' → ∀ b, X' b → w0.heap.size ≤ b := fun W' X' st b hx => (st.new b hx).elim (hX b) (fun h => by have := hb.size; omega)
  refine wpIn_mono (hbody l pre x O X W hww hm ht hb ((hrr q rfl).trans hq) hnx.1 hnx.2) ?_
  intro e a' W' hp
  cases e with
  | normal =>
   obtain ⟨X', st, h1⟩ := hp
   have mn := st.mine hm hOl hRl
   exact ⟨st.keepsFrom hm, st.kept hm hOl hRl, ⟨X', mn, h1, st.bel hX hb, hOn, hX' _ _ st, Nat.le_trans hzz st.size⟩, ⟨fun b h => (st.block b (hRl b h) (fun hx => hm.rest b hx h)).trans (hrr b h), Nat.le_trans hww st.size⟩, by rw [hnx.1, ← List.range_succ]; simp⟩
  | ret => obtain ⟨X', st, h1⟩ := hp; exact h1.elim
  | exit id => obtain ⟨X', st, h1⟩ := hp; exact h1.elim
  | goto t => obtain ⟨X', st, h1⟩ := hp; exact h1.elim
  | panic ch => exact hp.elim
  | outgrown => exact hp.elim
 case hdone =>
  rintro D xs O W hD hDO ⟨m, hM, rfl⟩ ⟨⟨X, hm, ht, hb, hOn, hX, hzz⟩, ⟨hrr, hww⟩, hG⟩ hDD
  have hlt : D < W.heap.size := (blkL hDD)
  refine hdone D m X W hD hlt (fun hx => ?_) hM ht hb ((hrr q rfl).trans hq) hDD
  obtain ⟨u, h1, h2⟩ := hm.cells D hx
  rw [hDD] at h1
  injection h1 with h1
  rw [← h1] at h2
  cases h2
 case hstop =>
  rintro D c pre O W hD hDO hxs h hDD
  exact h.elim
end Go.Proofs.YtgmpelhphnmknaaGreat
namespace Go.Proofs.YtgmpelhphnmknaaGreat
open Go.RowKit Go.Shelf
def Rk (B lo hi b : Nat) : Prop := b < B ∨ (lo ≤ b ∧ b < hi)
theorem rows_get {W : World} {base : Nat} {t : TypeId} {a : Option Addr} {m c k : Nat} {ws : List Nat} (h : W.ownsRow base t 1 (.slice a m c) m (ws.map (rowW k))) (hl : ws.length = m) (hm : 0 < m) : ∃ g, a = some ⟨g, 0, none⟩ ∧ base ≤ g ∧ g < W.heap.size ∧ ∀ i, i < m → W.cell? ⟨g, i, none⟩ = some (.slice (some ⟨ws.getD i 0, 0, none⟩) k k) := by
 obtain ⟨g, rfl, h1, h2⟩ := own_at h hm
 refine ⟨g, rfl, h1, h2, fun i hi => ?_⟩
 rw [h.cellAt i (by omega), List.getElem?_map, List.getElem?_eq_getElem (by omega), List.getD_eq_getElem?_getD, List.getElem?_eq_getElem (by omega)]
 rfl
theorem LK.search {a : Option Addr} {n c : Nat} {ba : Option Addr} {m bc : Nat} {ss : Nat → SV} {bs : Nat → BM} {w : World} {wa : Option Addr} {wc : Nat} {ra : Option Addr} {rc : Nat} {ws rs : List Nat} {W : World} {B : Nat} (h : LK a n c ba m bc ss bs w wa wc ra rc m ws rs W) (hS : Spans B w a n ss) (hM : Beams B w ba m bs) (hBw : B ≤ w.heap.size) :
  SearchAt (Rk B w.heap.size W.heap.size) n ss m bs (w.heap.size + 1) W := by
 obtain ⟨l0, l1, l2, l3⟩ := h.li
 have hz := (blkL h.sbox)
 have hB : B ≤ W.heap.size := by omega
 have hlo : ∀ b, b < B → Rk B w.heap.size W.heap.size b := fun b hb => .inl hb
 refine ⟨.inr ⟨by omega, hz⟩, hz, a, c, ba, bc, wa, wc, ra, rc, cell_of_row _ _ _ _ _ _ h.sbox, cell_of_row _ _ _ _ _ _ h.sbox, cell_of_row _ _ _ _ _ _ h.sbox, cell_of_row _ _ _ _ _ _ h.sbox, (hS.below (l3.mono hBw)).inR hlo hB, (hM.below (l3.mono hBw)).inR hlo hB, ?_, ?_⟩
 ·by_cases hm : m = 0
  ·exact .inl hm
  ·obtain ⟨g, rfl, h1, h2, h3⟩ := rows_get h.wown h.wl (by omega)
   exact .inr ⟨g, 0, rfl, .inr ⟨by omega, h2⟩, h2, fun i hi => ⟨_, n, by rw [Nat.zero_add]; exact h3 i hi, (h.wrow i hi).intsR (.inr ⟨by have := h.wlt i hi; omega, (h.wrow i hi).lt⟩)⟩⟩
 ·by_cases hm : m = 0
  ·exact .inl hm
  ·obtain ⟨g, rfl, h1, h2, h3⟩ := rows_get h.rown h.rl (by omega)
   exact .inr ⟨g, 0, rfl, .inr ⟨by omega, h2⟩, h2, fun i hi => ⟨_, n + 1, by rw [Nat.zero_add]; exact h3 i hi, (h.rrow i hi).spansR (.inr ⟨by have := h.rlt i hi; omega, (h.rrow i hi).lt⟩)⟩⟩
theorem Search.box {B lo : Nat} {n : Nat} {ss : Nat → SV} {m : Nat} {bs : Nat → BM} {sp : Nat} {W : World} {v : Value} {t : TypeId} (hlo : lo ≤ W.heap.size) (h : SearchAt (Rk B lo W.heap.size) n ss m bs sp W) : SearchAt (Rk B lo (W.heap.size + 1)) n ss m bs sp (W.alloc (.cells #[v] t)) := by
 have hw : ∀ b, Rk B lo W.heap.size b → Rk B lo (W.heap.size + 1) b := fun b h => h.elim .inl (fun h => .inr ⟨h.1, by omega⟩)
 have hi : ∀ {a n xs}, IntsR (Rk B lo W.heap.size) W a n xs → IntsR (Rk B lo (W.heap.size + 1)) W a n xs := fun h => h.weak hw
 have hs : ∀ {a n xs}, SpansR (Rk B lo W.heap.size) W a n xs → SpansR (Rk B lo (W.heap.size + 1)) W a n xs := fun h => by
  rcases h with h | ⟨b, off, ha, hB, hz, hc⟩
  ·exact .inl h
  ·exact .inr ⟨b, off, ha, hw b hB, hz, hc⟩
 have h2 : SearchAt (Rk B lo (W.heap.size + 1)) n ss m bs sp W := by
  obtain ⟨ca, cc, ba, bc, wa, wc, ra, rc, h0, h1, h2, h3, h4, h5, h6, h7⟩ := h.img
  refine ⟨hw _ h.own, h.lt, ca, cc, ba, bc, wa, wc, ra, rc, h0, h1, h2, h3, hs h4, ?_, ?_, ?_⟩
  ·rcases h5 with h | ⟨b, off, ha, hB, hz, hc⟩
   ·exact .inl h
   ·exact .inr ⟨b, off, ha, hw b hB, hz, hc⟩
  ·rcases h6 with h | ⟨b, off, ha, hB, hz, hc⟩
   ·exact .inl h
   ·refine .inr ⟨b, off, ha, hw b hB, hz, fun i hil => ?_⟩
    obtain ⟨ra, rc, k1, k2⟩ := hc i hil
    exact ⟨ra, rc, k1, hi k2⟩
  ·rcases h7 with h | ⟨b, off, ha, hB, hz, hc⟩
   ·exact .inl h
   ·refine .inr ⟨b, off, ha, hw b hB, hz, fun i hil => ?_⟩
    obtain ⟨ra, rc, k1, k2⟩ := hc i hil
    exact ⟨ra, rc, k1, hs k2⟩
 have hk : ∀ b, b < W.heap.size → (W.alloc (.cells #[v] t)).heap[b]? = W.heap[b]? := fun b hb => Below.heap_alloc W _ b hb
 -- all that is read lies below the box
 obtain ⟨ca, cc, ba, bc, wa, wc, ra, rc, h0, h1, h2, h3, h4, h5, h6, h7⟩ := h.img
 have ce : ∀ b o, b < W.heap.size → (W.alloc (.cells #[v] t)).cell? ⟨b, o, none⟩ = W.cell? ⟨b, o, none⟩ := fun b o hb => World.cell?_of_block (hk b hb)
 have hi2 : ∀ {a n xs}, IntsR (Rk B lo W.heap.size) W a n xs → IntsR (Rk B lo (W.heap.size + 1)) (W.alloc (.cells #[v] t)) a n xs := fun h => by
  rcases h with h | ⟨b, off, ha, hB, hz, hc⟩
  ·exact .inl h
  ·exact .inr ⟨b, off, ha, hw b hB, by simp; omega, fun i hi => (ce b _ hz).trans (hc i hi)⟩
 have hs2 : ∀ {a n xs}, SpansR (Rk B lo W.heap.size) W a n xs → SpansR (Rk B lo (W.heap.size + 1)) (W.alloc (.cells #[v] t)) a n xs := fun h => by
  rcases h with h | ⟨b, off, ha, hB, hz, hc⟩
  ·exact .inl h
  ·exact .inr ⟨b, off, ha, hw b hB, by simp; omega, fun i hi => ⟨(ce b _ hz).trans (hc i hi).1, (ce b _ hz).trans (hc i hi).2⟩⟩
 have hl := h.lt
 refine ⟨hw _ h.own, by simp; omega, ca, cc, ba, bc, wa, wc, ra, rc, (ce _ _ hl).trans h0, (ce _ _ hl).trans h1, (ce _ _ hl).trans h2, (ce _ _ hl).trans h3, hs2 h4, ?_, ?_, ?_⟩
 ·rcases h5 with h | ⟨b, off, ha, hB, hz, hc⟩
  ·exact .inl h
  ·refine .inr ⟨b, off, ha, hw b hB, by simp; omega, fun i hil => ?_⟩
   obtain ⟨k0, k1, k2, k3⟩ := hc i hil
   exact ⟨(ce b _ hz).trans k0, (ce b _ hz).trans k1, (ce b _ hz).trans k2, (ce b _ hz).trans k3⟩
 ·rcases h6 with h | ⟨b, off, ha, hB, hz, hc⟩
  ·exact .inl h
  ·refine .inr ⟨b, off, ha, hw b hB, by simp; omega, fun i hil => ?_⟩
   obtain ⟨ra, rc, k1, k2⟩ := hc i hil
   exact ⟨ra, rc, (ce b _ hz).trans k1, hi2 k2⟩
 ·rcases h7 with h | ⟨b, off, ha, hB, hz, hc⟩
  ·exact .inl h
  ·refine .inr ⟨b, off, ha, hw b hB, by simp; omega, fun i hil => ?_⟩
   obtain ⟨ra, rc, k1, k2⟩ := hc i hil
   exact ⟨ra, rc, (ce b _ hz).trans k1, hs2 k2⟩
end Go.Proofs.YtgmpelhphnmknaaGreat
namespace Go.Proofs.YtgmpelhphnmknaaGreat
open Go.RowKit Go.Shelf
theorem own_keep {w w' : World} {base : Nat} {e : TypeId} {k : Nat} {v : Value} {n : Nat} {xs : List Value} (h : w.ownsRow base e k v n xs) (hk : ∀ g, v.ownBlock = some g → w'.heap[g]? = w.heap[g]?) : w'.ownsRow base e k v n xs := by
 refine ⟨h.1, ?_⟩
 rcases h.2 with h | ⟨g, cap, cur, hv, h1, h2, h3⟩
 ·exact .inl h
 ·exact .inr ⟨g, cap, cur, hv, h1, (hk g (by rw [hv]; rfl)).trans h2, h3⟩
theorem own_block_le {w : World} {base : Nat} {e : TypeId} {k : Nat} {v : Value} {n : Nat} {xs : List Value} (h : w.ownsRow base e k v n xs) {b : Nat} (hb : v.ownBlock = some b) : base ≤ b := by
 rcases h.2 with ⟨rfl, _⟩ | ⟨g, cap, cur, rfl, h1, _⟩
 ·cases hb
 ·simp only [Value.ownBlock, Option.some.injEq] at hb; omega
theorem look_fields {a : Option Addr} {n c : Nat} {ba : Option Addr} {m bc : Nat} {ss : Nat → SV} {bs : Nat → BM} {w W : World} {B : Nat} {e : Ending} {t : TypeId} (h : LookRes a n c ba m bc ss bs w e W) (hS : Spans B w a n ss) (hM : Beams B w ba m bs) (hBw : B ≤ w.heap.size) :
  e = .returned (.pointer (some ⟨w.heap.size + 1, 0, none⟩)) ∧ Below w.heap.size w W ∧ w.heap.size + 1 < W.heap.size ∧ SearchAt (Rk B w.heap.size (W.heap.size + 1)) n ss m bs (w.heap.size + 1) (W.alloc (.cells #[.pointer (some ⟨w.heap.size + 1, 0, none⟩)] t)) := by
 obtain ⟨he, wa, wc, ra, rc, ws, rs, lk⟩ := h
 exact ⟨he, lk.li.2.2.2, (blkL lk.sbox), Search.box lk.li.2.2.2.size (lk.search hS hM hBw)⟩
theorem three_allocs (W : World) (o1 o2 o3 : Obj) : Below W.heap.size W (((W.alloc o1).alloc o2).alloc o3) ∧ (((W.alloc o1).alloc o2).alloc o3).heap.size = W.heap.size + 1 + 1 + 1 ∧ (((W.alloc o1).alloc o2).alloc o3).heap[W.heap.size]? = some o1 ∧ (((W.alloc o1).alloc o2).alloc o3).heap[W.heap.size + 1]? = some o2 ∧ (((W.alloc o1).alloc o2).alloc o3).heap[W.heap.size + 1 + 1]? = some o3 := by
 have a1 := alloc_below W o1
 have a2 := alloc_below (W.alloc o1) o2
 have a3 := alloc_below ((W.alloc o1).alloc o2) o3
 have z1 : (W.alloc o1).heap.size = W.heap.size + 1 := by simp
 have z2 : ((W.alloc o1).alloc o2).heap.size = W.heap.size + 1 + 1 := by simp
 have b2 := a2.trans (a3.mono a2.size)
 refine ⟨a1.trans (b2.mono a1.size), by simp, alloc_kept b2, ?_, ?_⟩
 ·have := alloc_kept (W := W.alloc o1) a3; rwa [z1] at this
 ·have := heap_alloc_new ((W.alloc o1).alloc o2) o3; rwa [z2] at this
theorem below_put {N D : Nat} {w W : World} (h : Below N w W) (hD : N ≤ D) (o : Obj) : Below N w (W.putObj D o) := h.trans ⟨rfl, rfl, rfl, by simp, fun b hb => World.putObj_heap_other (by omega)⟩
theorem leave_marked {P : Program} {fn : Func} {R : Ending → World → Prop} {tmps : Array Value} {W : World} {D n : Nat} {v : Value} (hK : W.heap[D]? = some (.deferred (some [])))
  (h : ∀ o', (results fn tmps).run P (W.putObj D o') = .ok v (W.putObj D o') ∧ R (.returned v) (W.putObj D o')) : bodyPostM Fence.wide n P fn R .ret { tmps := tmps, defers := [{ target := .collected D, args := #[] }] } W := by
 refine ⟨by simp, .inl ⟨_, _, rfl, run_takeDeferred hK, ?_⟩⟩
 obtain ⟨h1, h2⟩ := h _
 exact ⟨_, h1, h2⟩
theorem checkN_shape {n : Nat} {ss : Nat → SV} {m : Nat} {bs : Nat → BM} (h : checkN n ss m bs = 0) : Shape n ss m bs := by
 refine shapeB_iff.1 ?_
 unfold checkN at h
 cases e : shapeB n ss m bs
 ·rw [if_pos e] at h; cases h
 ·rfl
theorem sum_bound {n : Nat} {b : BM} (hs : setB n b.cn b.cs = true) (hw : ∀ k, k < b.cn → 1 ≤ b.ws k ∧ b.ws k ≤ 1000000) {f : Nat → Int} (hf : ∀ c, c < n → 0 ≤ f c ∧ f c ≤ 1000) : ∀ k, k ≤ b.cn → 0 ≤ sumN (fun k => b.ws k * f (b.cs k).toNat) k ∧ sumN (fun k => b.ws k * f (b.cs k).toNat) k ≤ 1000000000 * (k : Int)
 | 0, _ => by simp [sumN]
 | k + 1, hk => by
  have ih := sum_bound hs hw hf k (by omega)
  have h1 := hw k (by omega)
  have h2 := setB_at hs (i := k) (by omega)
  have h3 := hf (b.cs k).toNat (by omega)
  have h4 : 0 ≤ b.ws k * f (b.cs k).toNat := Int.mul_nonneg (by omega) (by omega)
  have h5 : b.ws k * f (b.cs k).toNat ≤ 1000000 * 1000 := Int.mul_le_mul (by omega) (by omega) (by omega) (by omega)
  rw [sumN]
  omega
theorem agreesB_no {m : Nat} {bs : Nat → BM} {f : Nat → Int} {i : Nat} (hi : i < m) (h : inB (ofN (bs i) f) (bs i).lo (bs i).hi = false) : agreesB m bs f = false := by
 unfold agreesB; rw [allUpto_false hi h]
theorem agreesB_yes {m : Nat} {bs : Nat → BM} {f : Nat → Int} (h : ∀ i, i < m → inB (ofN (bs i) f) (bs i).lo (bs i).hi = true) : agreesB m bs f = true := by
 unfold agreesB; rw [allUpto_true h]
end Go.Proofs.YtgmpelhphnmknaaGreat
namespace Go.Proofs.YtgmpelhphnmknaaGreat
open Go.RowKit
section
variable {F : Fence} {n : Nat} {P : Program} {ops : Array Oper} {Q : Exit → Act → World → Prop}
end
section
variable {n : Nat} {P : Program} {ops : Array Oper} {Q : Exit → Act → World → Prop}
end
end Go.Proofs.YtgmpelhphnmknaaGreat
