/- Texts put together: ImCan, ImBound, ImIt, ImMore, ImNode0. -/
import Derived.Test.YtgmpelhphnmknaaGreatQag
import Derived.Test.YtgmpelhphnmknaaGreatQab
import Derived.Test.YtgmpelhphnmknaaGreatQae
set_option maxRecDepth 100000
set_option maxHeartbeats 8000000
set_option linter.unusedVariables false
set_option linter.unusedSimpArgs false
namespace Go.Proofs.YtgmpelhphnmknaaGreat
open Go.RowKit
theorem canB_no {n : Nat} {ss : Nat → SV} {m : Nat} {bs : Nat → BM} {r i : Nat} {sums : Nat → Int} (hi : i < m) (h : (bs i).hi < sums i + rest n (bs i) (sLo ss) r ∨ sums i + rest n (bs i) (sHi ss) r < (bs i).lo) : canB n ss m bs r sums = false :=
 allUpto_false hi (by
  rcases h with h | h
  ·rw [decide_eq_true h]; rfl
  ·rw [decide_eq_true (p := sums i + rest n (bs i) (sHi ss) r < (bs i).lo) h, Bool.or_true]; rfl)
theorem canB_yes {n : Nat} {ss : Nat → SV} {m : Nat} {bs : Nat → BM} {r : Nat} {sums : Nat → Int} (h : ∀ i, i < m → ¬ (bs i).hi < sums i + rest n (bs i) (sLo ss) r ∧ ¬ sums i + rest n (bs i) (sHi ss) r < (bs i).lo) : canB n ss m bs r sums = true :=
 allUpto_true (fun i hi => by rw [decide_eq_false (h i hi).1, decide_eq_false (h i hi).2]; rfl)
theorem can_any (R : Nat → Prop) (n : Nat) (ss : Nat → SV) (m : Nat) (bs : Nat → BM) (sp : Nat) (sa : Option Addr) (mc : Nat) (sums : Nat → Int) (k r : Nat) (hkr : k + r = n) (w : World) (hS : SearchAt R n ss m bs sp w) (hA : Ints w.heap.size w sa m sums) (hB : ∀ i, i < m → 0 ≤ sums i ∧ sums i ≤ 1000000000000) (hSh : Shape n ss m bs) :
  Calls Tryz.prog 100 #[.pointer (some ⟨sp, 0, none⟩), .slice sa m mc, .int .i64 (k : Int)] w fun e w' => e = .returned (.bool (canB n ss m bs r sums)) ∧ Below w.heap.size w w' := by
 have hn := hSh.n40
 have hm := hSh.m20
 have HA := Lib.hid hA
 have HB := Lib.hid hB
 have HSh := Lib.hid hSh
 have HF1 := Hd (fun i hi h => @canB_no n ss m bs r i sums hi h)
 have HF2 := Hd (@canB_yes n ss m bs r sums)
 generalize canB n ss m bs r sums = RES at *
 obtain ⟨ca, cc, ba, bc, wa, wc, ra, rc, h0, h1, h2, h3, h4, h5, h6, h7⟩ := hS.img
 have hsp := hS.lt
 have H5 := Lib.hid h5
 have H7 := Lib.hid h7
 clear h4 h5 h6 h7 hS hA hB hSh h0 h2
 have hk1 : (k : Int) < (n : Int) + 1 := by omega
 have hkn : k < n + 1 := by omega
 have HKR := Lib.hid hkr
 clear hkr
 go_enter Tryz.func100, Tryz.ntmps100
 go_wp2
 go_loopw [15] (fun t wr => ∃ i : Nat, i ≤ m ∧ t = .int .i64 (i : Int) ∧ Hid (∀ j, j < i → ¬ (bs j).hi < sums j + rest n (bs j) (sLo ss) r ∧ ¬ sums j + rest n (bs j) (sHi ss) r < (bs j).lo) ∧ Below w.heap.size w wr) (fun t _ => m - (intOf t).toNat)
 case atStart => exact ⟨0, Nat.zero_le _, rfl, Hd (fun j h => by omega), Below.refl _ _⟩
 case round =>
  obtain ⟨i, hi, rfl, HALL, hb⟩ := hrel
  have hz := hb.size
  by_cases hlt : i < m
  ·have hlt' : (i : Int) < (m : Int) := by omega
   obtain ⟨bb, boff, rfl, _, hbz, hat⟩ := H5.out.get hlt
   obtain ⟨c0, c1, c2, c3⟩ := hat.below hb hbz
   obtain ⟨rb, roff, ia, ic, rfl, _, hrz, d0, hin⟩ := H7.out.get hlt
   obtain ⟨ib, ioff, rfl, _, hiz, e0, e1⟩ := hin.get hkn
   obtain ⟨sb, soff, rfl, hsz, s0⟩ := HA.out.get hlt
   have d0' := ((bcell hb).1 _ _ hrz).trans d0
   have e0' := ((bcell hb).1 _ _ hiz).trans e0
   have e1' := ((bcell hb).1 _ _ hiz).trans e1
   have s0' := ((bcell hb).1 _ _ hsz).trans s0
   have h1' := ((bcell hb).1 _ _ hsp).trans h1
   have h3' := ((bcell hb).1 _ _ hsp).trans h3
   have hrs : restS n ss (bs i) k = ⟨rest n (bs i) (sLo ss) r, rest n (bs i) (sHi ss) r⟩ := by
    unfold restS; rw [show n - k = r by have := HKR.out; omega]
   rw [hrs] at e0' e1'
   dsimp only at e0' e1'
   have hsw : ∀ c, 0 ≤ (bs i).w c ∧ (bs i).w c ≤ 1000000 := fun c => HSh.out.w hlt c
   have hbl := rest_bound (n := n) (b := bs i) (f := sLo ss) hsw (fun c hc => by obtain ⟨h1, h2, h3⟩ := HSh.out.span c hc; unfold sLo; omega) r (by have := HKR.out; omega)
   have hbh := rest_bound (n := n) (b := bs i) (f := sHi ss) hsw (fun c hc => by obtain ⟨h1, h2, h3⟩ := HSh.out.span c hc; unfold sHi; omega) r (by have := HKR.out; omega)
   have b1 : rest n (bs i) (sLo ss) r ≤ 40000000000 := by have := HKR.out; omega
   have b2 : rest n (bs i) (sHi ss) r ≤ 40000000000 := by have := HKR.out; omega
   have b3 := hbl.1
   have b4 := hbh.1
   obtain ⟨b5, b6⟩ := HB.out i hlt
   have HN := Hd (HF1.out i hlt)
   have HT : ∀ (x : ¬ (bs i).hi < sums i + rest n (bs i) (sLo ss) r) (y : ¬ sums i + rest n (bs i) (sHi ss) r < (bs i).lo), ∀ j, j < i + 1 → ¬ (bs j).hi < sums j + rest n (bs j) (sLo ss) r ∧ ¬ sums j + rest n (bs j) (sHi ss) r < (bs j).lo := fun x y j hj => by
    by_cases e : j = i
    ·subst e; exact ⟨x, y⟩
    ·exact HALL.out j (by omega)
   have HT2 := Lib.hid HT
   have q1 : bb < wr.heap.size := by omega
   have q2 : rb < wr.heap.size := by omega
   have q3 : ib < wr.heap.size := by omega
   have q4 : sb < wr.heap.size := by omega
   have q5 : sp < wr.heap.size := by omega
   clear hrs hsw hbl hbh hat hin d0 e0 e1 s0 HT
   generalize rest n (bs i) (sLo ss) r = RL at *
   generalize rest n (bs i) (sHi ss) r = RH at *
   generalize sums i = S at *
   generalize (bs i).lo = L at *
   generalize (bs i).hi = U at *
   generalize (bs i).ca = xca at *
   generalize (bs i).cn = xcn at *
   generalize (bs i).cc = xcc at *
   generalize (bs i).wa = xwa at *
   generalize (bs i).wn = xwn at *
   generalize (bs i).wc = xwc at *
   have u1 : IntKind.i64.wrap (S + RL) = S + RL := IntWalk.i64_in _ (by omega)
   have u2 : IntKind.i64.wrap (S + RH) = S + RH := IntWalk.i64_in _ (by omega)
   by_cases t1 : U < S + RL
   ·have t1' : decide (U < S + RL) = true := decide_eq_true t1
    have HF := Hd (HN.out (.inl t1))
    clear t1
    go_upto_region 4 with (fail)
    (refine wp_region_calm (wr.heap.size + 1) (by kernel_rfl) (by kernel_rfl) ?_; (repeat (first | go_big_quiet_step (fail) | quiet_step (fail))); refine wpQuiet_nil (wqn ?_); intro xq)
    have hb3 := hb.trans ((((Below.refl _ _).alloc (Nat.le_refl _) _).trans (xq.below.mono (by omega))).mono hz)
    go_wp2
    go_ret
    exact ⟨ret_bool HF.out.symm, hb3⟩
   ·have t1' : decide (U < S + RL) = false := decide_eq_false t1
    by_cases t2 : S + RH < L
    ·have t2' : decide (S + RH < L) = true := decide_eq_true t2
     have HF := Hd (HN.out (.inr t2))
     clear t1 t2
     go_upto_region 4 with (fail)
     (refine wp_region_calm (wr.heap.size + 1) (by kernel_rfl) (by kernel_rfl) ?_; (repeat (first | go_big_quiet_step (fail) | quiet_step (fail))); refine wpQuiet_nil (wqn ?_); intro xq)
     have hb3 := hb.trans ((((Below.refl _ _).alloc (Nat.le_refl _) _).trans (xq.below.mono (by omega))).mono hz)
     go_wp2
     go_ret
     exact ⟨ret_bool HF.out.symm, hb3⟩
    ·have t2' : decide (S + RH < L) = false := decide_eq_false t2
     have HT3 := Hd (HT2.out t1 t2)
     clear t1 t2
     go_upto_region 4 with (fail)
     (refine wp_region_calm (wr.heap.size + 1) (by kernel_rfl) (by kernel_rfl) ?_; (repeat (first | go_big_quiet_step (fail) | quiet_step (fail))); refine wpQuiet_nil (wqn ?_); intro xq)
     have hb3 := hb.trans ((((Below.refl _ _).alloc (Nat.le_refl _) _).trans (xq.below.mono (by omega))).mono hz)
     go_wp2
     go_roundw
     case rel => exact ⟨i + 1, by omega, by go_num, HT3, hb3⟩
     case measure => simp [intOf]; omega
  ·obtain rfl : i = m := by omega
   have hlt' : ¬ (i : Int) < (i : Int) := by omega
   have HF := Hd (HF2.out (fun j hj => by have := HALL.out j hj; omega))
   go_wp2
   go_ret
   exact ⟨ret_bool HF.out.symm, hb⟩
end Go.Proofs.YtgmpelhphnmknaaGreat
namespace Go.Proofs.YtgmpelhphnmknaaGreat
def bnd (g : List Int → Int) : List (List Int) → SV
 | [] => ⟨0, 0⟩
 | f :: t => t.foldl (fun s f => ⟨min s.lo (g f), max s.hi (g f)⟩) ⟨g f, g f⟩
theorem bnd_snoc (g : List Int → Int) (l : List (List Int)) (f : List Int) : bnd g (l ++ [f]) = if l = [] then ⟨g f, g f⟩ else ⟨min (bnd g l).lo (g f), max (bnd g l).hi (g f)⟩ := by
 cases l with
 | nil => simp [bnd]
 | cons x t => simp [bnd, List.foldl_append]
structure IsBnd (g : List Int → Int) (l : List (List Int)) (s : SV) : Prop where
 all : ∀ f ∈ l, s.lo ≤ g f ∧ g f ≤ s.hi
 lo : ∃ f ∈ l, g f = s.lo
 hi : ∃ f ∈ l, g f = s.hi
theorem bnd_fold (g : List Int → Int) : ∀ (t : List (List Int)) (l : List (List Int)) (s : SV), IsBnd g l s → IsBnd g (l ++ t) (t.foldl (fun s f => ⟨min s.lo (g f), max s.hi (g f)⟩) s)
 | [], l, s, h => by simpa using h
 | f :: t, l, s, h => by
  have h2 : IsBnd g (l ++ [f]) ⟨min s.lo (g f), max s.hi (g f)⟩ := by
   refine ⟨fun x hx => ?_, ?_, ?_⟩
   ·rcases List.mem_append.1 hx with h1 | h1
    ·have := h.all x h1; dsimp only; omega
    ·simp at h1; subst h1; dsimp only; omega
   ·obtain ⟨x, hx, e⟩ := h.lo
    by_cases h1 : s.lo ≤ g f
    ·exact ⟨x, by simp [hx], by dsimp only; omega⟩
    ·exact ⟨f, by simp, by dsimp only; omega⟩
   ·obtain ⟨x, hx, e⟩ := h.hi
    by_cases h1 : g f ≤ s.hi
    ·exact ⟨x, by simp [hx], by dsimp only; omega⟩
    ·exact ⟨f, by simp, by dsimp only; omega⟩
  have := bnd_fold g t (l ++ [f]) _ h2
  simpa using this
theorem bnd_is (g : List Int → Int) {l : List (List Int)} (h : l ≠ []) : IsBnd g l (bnd g l) := by
 cases l with
 | nil => exact absurd rfl h
 | cons f t =>
  have := bnd_fold g t [f] ⟨g f, g f⟩ ⟨by simp, ⟨f, by simp, rfl⟩, ⟨f, by simp, rfl⟩⟩
  simpa [bnd] using this
def lexLt : List Int → List Int → Prop
 | a :: az, b :: bs => a < b ∨ (a = b ∧ lexLt az bs)
 | _, _ => False
theorem lexLt_irrefl : ∀ a, ¬ lexLt a a
 | [] => by simp [lexLt]
 | a :: az => by
  have := lexLt_irrefl az
  simp [lexLt, this]
theorem lexLt_asymm : ∀ a b, lexLt a b → ¬ lexLt b a
 | [], _, h => by simp [lexLt] at h
 | _ :: _, [], h => by simp [lexLt] at h
 | a :: az, b :: bs, h => by
  have := lexLt_asymm az bs
  simp only [lexLt] at *
  rintro (h2 | ⟨h2, h3⟩)
  ·rcases h with h | h <;> omega
  ·rcases h with h | ⟨h, h4⟩
   ·omega
   ·exact this h4 h3
theorem lexLt_append : ∀ (p a b : List Int), lexLt (p ++ a) (p ++ b) ↔ lexLt a b
 | [], _, _ => Iff.rfl
 | x :: p, a, b => by
  have := lexLt_append p a b
  simp [lexLt, this]
theorem dens_sorted (s : SV) : (dens s).Pairwise (· < ·) := by
 unfold dens
 rw [List.pairwise_map]
 exact List.pairwise_lt_range.imp (fun h => by omega)
theorem enumF_sorted {n : Nat} {ss : Nat → SV} {ag : List Int → Bool} : ∀ r pre, r ≤ n → pre.length = n - r → (enumF n ss ag r pre).Pairwise lexLt
 | 0, pre, hr, hp => by
  rw [enumF]
  split <;> simp
 | r + 1, pre, hr, hp => by
  rw [enumF, List.pairwise_flatMap]
  refine ⟨fun d _ => enumF_sorted r _ (by omega) (by simp; omega), ?_⟩
  refine (dens_sorted _).imp ?_
  intro d e hde x hx y hy
  obtain ⟨_, _, ⟨t, rfl⟩, _⟩ := (enumF_mem r (pre ++ [d]) x (by omega) (by simp; omega)).1 hx
  obtain ⟨_, _, ⟨u, rfl⟩, _⟩ := (enumF_mem r (pre ++ [e]) y (by omega) (by simp; omega)).1 hy
  rw [List.append_assoc, List.append_assoc, lexLt_append]
  simp only [List.singleton_append, lexLt]
  exact .inl hde
theorem allF_sorted {n : Nat} {ss : Nat → SV} {m : Nat} {bs : Nat → BM} : (allF n ss m bs).Pairwise lexLt := enumF_sorted n [] (Nat.le_refl _) (by simp)
theorem sorted_eq : ∀ {l k : List (List Int)}, l.Pairwise lexLt → k.Pairwise lexLt → (∀ f, f ∈ l ↔ f ∈ k) → l = k
 | [], [], _, _, _ => rfl
 | [], y :: k, _, _, h => by have := (h y).2 (by simp); simp at this
 | x :: l, [], _, _, h => by have := (h x).1 (by simp); simp at this
 | x :: l, y :: k, hl, hk, h => by
  have h1 := List.pairwise_cons.1 hl
  have h2 := List.pairwise_cons.1 hk
  have e : x = y := by
   rcases List.mem_cons.1 ((h x).1 (by simp)) with e | hx
   ·exact e
   ·rcases List.mem_cons.1 ((h y).2 (by simp)) with e | hy
    ·exact e.symm
    ·exact absurd (h1.1 y hy) (lexLt_asymm _ _ (h2.1 x hx))
  subst e
  congr 1
  refine sorted_eq h1.2 h2.2 (fun f => ?_)
  constructor
  ·intro hf
   rcases List.mem_cons.1 ((h f).1 (by simp [hf])) with e | hk'
   ·subst e; exact absurd (h1.1 f hf) (lexLt_irrefl f)
   ·exact hk'
  ·intro hf
   rcases List.mem_cons.1 ((h f).2 (by simp [hf])) with e | hk'
   ·subst e; exact absurd (h2.1 f hf) (lexLt_irrefl f)
   ·exact hk'
theorem sorted_filter {l k : List (List Int)} (hl : l.Pairwise lexLt) (hk : k.Pairwise lexLt) {p : List Int → Bool} (h : ∀ f, f ∈ k ↔ f ∈ l ∧ p f = true) : k = l.filter p :=
 sorted_eq hk (hl.sublist List.filter_sublist) (fun f => by rw [h, List.mem_filter])
theorem sorted_length {l k : List (List Int)} (hl : l.Pairwise lexLt) (hk : k.Pairwise lexLt) (h : ∀ f, f ∈ k → f ∈ l) : k.length ≤ l.length := by
 have : k = l.filter (fun f => decide (f ∈ k)) := sorted_filter hl hk (fun f => by simp; exact fun hf => h f hf)
 rw [this]
 exact List.length_filter_le _ _
end Go.Proofs.YtgmpelhphnmknaaGreat
namespace Go.Proofs.YtgmpelhphnmknaaGreat
open Go.RowKit Go.Shelf
attribute [local go_sem] Oper.semAt_some
structure FX where
 f : List Int
 fa : Option Addr
 sa : Option Addr
abbrev encFX (n m : Nat) (x : FX) : Array Value := #[.slice x.fa n n, .slice x.sa m m]
def InSpans (n : Nat) (ss : Nat → SV) (f : List Int) : Prop := ∀ c, c < f.length → (ss c).lo ≤ fOf f c ∧ fOf f c ≤ (ss c).hi
structure Shown (n : Nat) (ss : Nat → SV) (m : Nat) (bs : Nat → BM) (x : FX) (O : Nat → Prop) (W : World) : Prop where
 len : x.f.length = n
 ins : InSpans n ss x.f
 field : ∃ b, x.fa = some ⟨b, 0, none⟩ ∧ O b ∧ b < W.heap.size ∧ ∀ c, c < n → W.cell? ⟨b, c, none⟩ = some (.int .i64 (fOf x.f c))
 sums : IntsR O W x.sa m (sumsOf bs x.f)
structure ItP where
 sB : Nat
 yB : Nat
 fB : Nat
 fb : Nat
 mB : Nat
structure EnvF (R : Nat → Prop) (n : Nat) (ss : Nat → SV) (m : Nat) (bs : Nat → BM) (sp l : Nat) (q : ItP) (p : List Int) (O : Nat → Prop) (W : World) : Prop where
 search : SearchAt R n ss m bs sp W
 sown : R q.sB
 sbox : W.cell? ⟨q.sB, 0, none⟩ = some (.pointer (some ⟨sp, 0, none⟩))
 yown : O q.yB
 ybox : W.cell? ⟨q.yB, 0, none⟩ = some (.func (.yield l) #[] #[])
 fown : O q.fB
 fbox : W.cell? ⟨q.fB, 0, none⟩ = some (.slice (some ⟨q.fb, 0, none⟩) n n)
 mown : O q.mB
 mbox : W.cell? ⟨q.mB, 0, none⟩ = some (.func (.func 99) #[] #[.pointer (some ⟨q.sB, 0, none⟩), .pointer (some ⟨q.yB, 0, none⟩), .pointer (some ⟨q.fB, 0, none⟩), .pointer (some ⟨q.mB, 0, none⟩)])
 rown : O q.fb
 row : ∃ f, IR 3 W q.fb n f ∧ ∀ c, c < p.length → f c = fOf p c
 apart : q.fb ≠ q.yB ∧ q.fb ≠ q.fB ∧ q.fb ≠ q.mB
 olt : ∀ b, O b → b < W.heap.size
 rlt : ∀ b, R b → b < W.heap.size
 disj : ∀ b, O b → ¬ R b
structure Evo (R : Nat → Prop) (n fb : Nat) (p : List Int) (O : Nat → Prop) (W : World) (O' : Nat → Prop) (W' : World) : Prop where
 sub : ∀ b, O b → O' b
 new : ∀ b, O' b → O b ∨ W.heap.size ≤ b
 lt : ∀ b, O' b → b < W'.heap.size
 size : W.heap.size ≤ W'.heap.size
 own : ∀ b, O b → b ≠ fb → W'.heap[b]? = W.heap[b]?
 rely : ∀ b, R b → W'.heap[b]? = W.heap[b]?
 row : ∃ f, IR 3 W' fb n f ∧ ∀ c, c < p.length → f c = fOf p c
section
variable {R : Nat → Prop} {n : Nat} {ss : Nat → SV} {m : Nat} {bs : Nat → BM} {sp l : Nat} {q : ItP} {p : List Int} {O O' O'' : Nat → Prop} {W W' W'' : World}
theorem EnvF.evo (h : EnvF R n ss m bs sp l q p O W) (e : Evo R n q.fb p O W O' W') : EnvF R n ss m bs sp l q p O' W' := by
 have k : ∀ b, O b → b ≠ q.fb → W'.cell? ⟨b, 0, none⟩ = W.cell? ⟨b, 0, none⟩ := fun b hb hn => World.cell?_of_block (e.own b hb hn)
 exact ⟨h.search.rests e.rely e.size, h.sown, (World.cell?_of_block (e.rely _ h.sown)).trans h.sbox, e.sub _ h.yown, (k _ h.yown (Ne.symm h.apart.1)).trans h.ybox, e.sub _ h.fown, (k _ h.fown (Ne.symm h.apart.2.1)).trans h.fbox, e.sub _ h.mown, (k _ h.mown (Ne.symm h.apart.2.2)).trans h.mbox, e.sub _ h.rown, e.row, h.apart, e.lt,
  fun b hb => by have := h.rlt b hb; have := e.size; omega, fun b hb hr => (e.new b hb).elim (fun h1 => h.disj b h1 hr) (fun h1 => by have := h.rlt b hr; omega)⟩
theorem Evo.refl (h : EnvF R n ss m bs sp l q p O W) : Evo R n q.fb p O W O W := ⟨fun _ h => h, fun _ h => .inl h, h.olt, Nat.le_refl _, fun _ _ _ => rfl, fun _ _ => rfl, h.row⟩
theorem Evo.trans {fb : Nat} (h : Evo R n fb p O W O' W') (k : Evo R n fb p O' W' O'' W'') : Evo R n fb p O W O'' W'' :=
 ⟨fun b hb => k.sub b (h.sub b hb), fun b hb => (k.new b hb).elim (h.new b) (fun h1 => .inr (Nat.le_trans h.size h1)), k.lt, Nat.le_trans h.size k.size, fun b hb hn => (k.own b (h.sub b hb) hn).trans (h.own b hb hn), fun b hb => (k.rely b hb).trans (h.rely b hb), k.row⟩
theorem Evo.kept (h : EnvF R n ss m bs sp l q p O W) (k : Kept (With O R) W W') : Evo R n q.fb p O W O W' :=
 ⟨fun _ h => h, fun _ h => .inl h, fun b hb => by have := h.olt b hb; have := k.size; omega, k.size, fun b hb _ => k.block b (.inl hb), fun b hb => k.block b (.inr hb), by
  obtain ⟨f, h1, h2⟩ := h.row
  exact ⟨f, h1.block (k.block _ (.inl h.rown)), h2⟩⟩
end
def MoreRes (R : Nat → Prop) (n : Nat) (ss : Nat → SV) (m : Nat) (bs : Nat → BM) (fb : Nat) (J Jx : List FX → (Nat → Prop) → World → Prop) (r : Nat) (p : List Int) (xs : List FX) (O : Nat → Prop) (W : World) (e : Ending) (W' : World) : Prop :=
 (e = .returned (.bool true) ∧ ∃ ys O', ys.map FX.f = visF n ss m bs r p ∧ J (xs ++ ys) O' W' ∧ Evo R n fb p O W O' W') ∨
 (e = .returned (.bool false) ∧ ∃ ys O', (∃ k, ys.map FX.f = (visF n ss m bs r p).take k) ∧ Jx (xs ++ ys) O' W')
def Pos (xs : List FX) (p : List Int) : Prop := ∀ x ∈ xs, ∀ g, p <+: g → lexLt x.f g
def Nxt (n : Nat) (ss : Nat → SV) (m : Nat) (bs : Nat → BM) (pre : List FX) (x : FX) : Prop := Pos pre x.f ∧ x.f ∈ allF n ss m bs
def Owes (R : Nat → Prop) (n : Nat) (ss : Nat → SV) (m : Nat) (bs : Nat → BM) (l : Nat) (J Jx : List FX → (Nat → Prop) → World → Prop) : Prop :=
 ∀ pre x O W1, J pre O W1 → Shown n ss m bs x O W1 → Nxt n ss m bs pre x → ∀ k, YieldAt Fence.wide k Tryz.prog l (encFX n m x) W1 fun e W' =>
   (e = .returned (.bool true) ∧ J (pre ++ [x]) O W' ∧ Kept (With O R) W1 W') ∨ (e = .returned (.bool false) ∧ Jx (pre ++ [x]) O W')
end Go.Proofs.YtgmpelhphnmknaaGreat
namespace Go.Proofs.YtgmpelhphnmknaaGreat
open Go.RowKit Go.Shelf
attribute [local go_sem] Oper.semAt_some
theorem vis_leaf {n : Nat} {ss : Nat → SV} {m : Nat} {bs : Nat → BM} {p : List Int} : visF n ss m bs 0 p = if canB n ss m bs 0 (sumsOf bs p) = true then [p] else [] := rfl
theorem vis_cut {n : Nat} {ss : Nat → SV} {m : Nat} {bs : Nat → BM} {r : Nat} {p : List Int} (h : canB n ss m bs r (sumsOf bs p) = false) : visF n ss m bs r p = [] := by
 cases r <;> rw [visF, if_neg (by rw [h]; simp)]
theorem sums_bound {n : Nat} {ss : Nat → SV} {m : Nat} {bs : Nat → BM} (hS : Shape n ss m bs) {p : List Int} (hp : p.length ≤ n) (hi : InSpans n ss p) {i : Nat} (him : i < m) : 0 ≤ sumsOf bs p i ∧ sumsOf bs p i ≤ 1000000000 * (p.length : Int) := by
 unfold sumsOf preSum
 have key : ∀ k, k ≤ p.length → 0 ≤ sumN (fun c => (bs i).w c * fOf p c) k ∧ sumN (fun c => (bs i).w c * fOf p c) k ≤ 1000000000 * (k : Int) := by
  intro k
  induction k with
  | zero => intro _; simp [sumN]
  | succ k ih =>
   intro hk
   have h1 := ih (by omega)
   have h2 := hS.w him k
   have h3 := hi k (by omega)
   have h4 := hS.span k (by omega)
   have h5 : 0 ≤ (bs i).w k * fOf p k := Int.mul_nonneg h2.1 (by omega)
   have h6 : (bs i).w k * fOf p k ≤ 1000000 * 1000 := Int.mul_le_mul h2.2 (by omega) (by omega) (by omega)
   rw [sumN]
   push_cast
   omega
 exact key _ (Nat.le_refl _)
theorem EnvF.step {R : Nat → Prop} {n : Nat} {ss : Nat → SV} {m : Nat} {bs : Nat → BM} {sp l : Nat} {q : ItP} {p : List Int} {O : Nat → Prop} {W W' : World} (h : EnvF R n ss m bs sp l q p O W) (hb : Below W.heap.size W W') : Evo R n q.fb p O W (ownAlso O W W') W' :=
 ⟨fun b hb => .inl hb, fun b hb => hb.elim .inl (fun h1 => .inr h1.1), fun b hb2 => hb2.elim (fun h1 => by have := h.olt b h1; have := hb.size; omega) (fun h1 => h1.2), hb.size, fun b h1 _ => hb.block b (h.olt b h1), fun b h1 => hb.block b (h.rlt b h1), by
  obtain ⟨f, h1, h2⟩ := h.row
  exact ⟨f, h1.step hb, h2⟩⟩
theorem more_leaf (R : Nat → Prop) (n : Nat) (ss : Nat → SV) (m : Nat) (bs : Nat → BM) (sp l : Nat) (q : ItP) (hSh : Shape n ss m bs) (J Jx : List FX → (Nat → Prop) → World → Prop) (hJ : Abide J) (hY : Owes R n ss m bs l J Jx)
  (N : Nat) (p : List Int) (hp : p.length = n) (hin : InSpans n ss p) (sa : Option Addr) (xs : List FX) (O : Nat → Prop) (W : World) (hE : EnvF R n ss m bs sp l q p O W) (hs : IntsR O W sa m (sumsOf bs p)) (hj : J xs O W) (hpos : Pos xs p) :
  CallsIn Fence.wide N Tryz.prog 99 #[.int .i64 (n : Int), .slice sa m m, .pointer (some ⟨q.sB, 0, none⟩), .pointer (some ⟨q.yB, 0, none⟩), .pointer (some ⟨q.fB, 0, none⟩), .pointer (some ⟨q.mB, 0, none⟩)] W (MoreRes R n ss m bs q.fb J Jx 0 p xs O W) := by
 have hn := hSh.n40
 obtain ⟨ca, cc, ba, bc, wa, wc, ra, rc, h0, _⟩ := hE.search.img
 have hsp := hE.search.lt
 have s0 := hE.sbox
 have s0z := hE.rlt _ hE.sown
 have HC := Hd (can_any R n ss m bs sp sa m (sumsOf bs p) n 0 rfl W hE.search hs.ints (fun i hi => by have := sums_bound hSh (by omega) hin hi; rw [hp] at this; omega) hSh)
 have HV := Hd (@vis_leaf n ss m bs p)
 cases hc : canB n ss m bs 0 (sumsOf bs p)
 ·have HR := Hd (fun (W' : World) (hb : Below W.heap.size W W') => show MoreRes R n ss m bs q.fb J Jx 0 p xs O W (.returned (.bool true)) W' from .inl ⟨rfl, [], _, by rw [vis_cut hc]; rfl, by rw [List.append_nil]; exact hJ _ _ _ _ _ hj (Turn.of_below hb), hE.step hb⟩)
  generalize MoreRes R n ss m bs q.fb J Jx 0 p xs O W = RES at *
  clear hE hs hj hY hJ
  refine callsIn_of_wp Tryz.func99 rfl trivial ?_ rfl
  simp only [Tryz.ntmps99, List.size_toArray, List.length_cons, List.length_nil, Nat.reduceAdd, Nat.reduceSub, Array.replicate_succ, Array.replicate_zero, List.push_toArray, List.append_toArray, List.nil_append, List.cons_append]
  gi_wp2_with (refine ⟨trivial, fun h => (by cases h), ?_⟩; with_reducible refine (callsIn_wide.2 HC.out).mono ?_; rintro e w1 ⟨rfl, hb⟩; rw [hc])
  exact HR.out _ hb
 ·have HR1 := Hd (fun (O1 : Nat → Prop) (W1 W' : World) (x : FX) (hx : x.f = p) (ev : Evo R n q.fb p O W O1 W1) (en : EnvF R n ss m bs sp l q p O1 W1) (hj' : J (xs ++ [x]) O1 W') (hk : Kept (With O1 R) W1 W') => show MoreRes R n ss m bs q.fb J Jx 0 p xs O W (.returned (.bool true)) W' from .inl ⟨rfl, [x], O1, by rw [vis_leaf, if_pos hc, List.map_cons, List.map_nil, hx], hj', ev.trans (Evo.kept en hk)⟩)
  have HR2 := Hd (fun (O1 : Nat → Prop) (W' : World) (x : FX) (hx : x.f = p) (hj' : Jx (xs ++ [x]) O1 W') => show MoreRes R n ss m bs q.fb J Jx 0 p xs O W (.returned (.bool false)) W' from .inr ⟨rfl, [x], O1, ⟨1, by rw [vis_leaf, if_pos hc, List.map_cons, List.map_nil, hx]; rfl⟩, hj'⟩)
  have HY1 := Hd (fun (W1 : World) (hb : Below W.heap.size W W1) => show EnvF R n ss m bs sp l q p (ownAlso O W W1) W1 ∧ Evo R n q.fb p O W (ownAlso O W W1) W1 ∧ YieldAt Fence.wide (N - 1) Tryz.prog l #[.slice (some ⟨q.fb, 0, none⟩) n n, .slice sa m m] W1 (fun e W' => (e = .returned (.bool true) ∧ J (xs ++ [⟨p, some ⟨q.fb, 0, none⟩, sa⟩]) (ownAlso O W W1) W' ∧ Kept (With (ownAlso O W W1) R) W1 W') ∨ (e = .returned (.bool false) ∧ Jx (xs ++ [⟨p, some ⟨q.fb, 0, none⟩, sa⟩]) (ownAlso O W W1) W')) from by
   have e1 := hE.step hb
   have en := hE.evo e1
   refine ⟨en, e1, hY xs ⟨p, some ⟨q.fb, 0, none⟩, sa⟩ (ownAlso O W W1) W1 (hJ _ _ _ _ _ hj (Turn.of_below hb)) ⟨hp, hin, ?_, ?_⟩ ⟨hpos, allF_mem.2 ⟨by rw [← can_end hSh hp]; exact hc, hp, fun c hcn => hin c (by omega)⟩⟩ (N - 1)⟩
   ·obtain ⟨f, hi, hf⟩ := en.row
    exact ⟨q.fb, rfl, en.rown, hi.lt, fun c hcn => (hi.cell hcn).trans (by rw [hf c (by omega)])⟩
   ·rcases hs with h | ⟨b, off, ha, hob, hbz, hcell⟩
    ·exact .inl h
    ·exact .inr ⟨b, off, ha, .inl hob, by have := hb.size; omega, fun i hi => ((bcell hb).1 _ _ hbz).trans (hcell i hi)⟩)
  generalize MoreRes R n ss m bs q.fb J Jx 0 p xs O W = RES at *
  clear hE hs hj hY hJ
  have HS0 := Hd (And.intro h0 hsp)
  clear h0
  refine callsIn_of_wp Tryz.func99 rfl trivial ?_ rfl
  simp only [Tryz.ntmps99, List.size_toArray, List.length_cons, List.length_nil, Nat.reduceAdd, Nat.reduceSub, Array.replicate_succ, Array.replicate_zero, List.push_toArray, List.append_toArray, List.nil_append, List.cons_append]
  gi_wp2_with (fail)
  refine ⟨trivial, fun h => (by cases h), ?_⟩
  with_reducible refine (callsIn_wide.2 HC.out).mono ?_
  rintro e w1 ⟨rfl, hb⟩
  rw [hc]
  obtain ⟨en, ev, fn, tmps, assign, body, hy, hR⟩ := HY1.out _ hb
  have g0 := ((bcell hb).1 _ _ hsp).trans HS0.out.1
  have s1 := en.sbox
  have y1 := en.ybox
  have f1 := en.fbox
  have EN := Lib.hid en
  have EV := Lib.hid ev
  clear en ev s0 HY1 HC HV
  dsimp only
  gi_wp2
  refine ⟨fun h => (by cases h), hR.mono ?_⟩
  rintro e W3 (⟨rfl, hj3, hk3⟩ | ⟨rfl, hj3⟩)
  ·gi_wp2
   exact HR1.out _ w1 W3 _ rfl EV.out EN.out hj3 hk3
  ·gi_wp2
   exact HR2.out _ W3 _ rfl hj3
end Go.Proofs.YtgmpelhphnmknaaGreat
namespace Go.Proofs.YtgmpelhphnmknaaGreat
open Go.RowKit Go.Shelf
def Off (O : Nat → Prop) (fb : Nat) (b : Nat) : Prop := O b ∧ b ≠ fb
theorem IntsR.weak {R R' : Nat → Prop} {w : World} {a : Option Addr} {n : Nat} {xs : Nat → Int} (h : IntsR R w a n xs) (hR : ∀ b, R b → R' b) : IntsR R' w a n xs := by
 rcases h with h | ⟨b, off, ha, hB, hz, hc⟩
 ·exact .inl h
 ·exact .inr ⟨b, off, ha, hR b hB, hz, hc⟩
theorem IntsR.off {R O O' : Nat → Prop} {n m fb : Nat} {p : List Int} {W W' : World} {a : Option Addr} {xs : Nat → Int} (h : IntsR (Off O fb) W a m xs) (e : Evo R n fb p O W O' W') : IntsR (Off O' fb) W' a m xs := by
 rcases h with h | ⟨b, off, ha, hB, hz, hc⟩
 ·exact .inl h
 ·exact .inr ⟨b, off, ha, ⟨e.sub _ hB.1, hB.2⟩, by have := e.size; omega, fun i hi => (World.cell?_of_block (e.own _ hB.1 hB.2)).trans (hc i hi)⟩
theorem fOf_snoc {p : List Int} {d : Int} {c : Nat} (h : c < p.length) : fOf (p ++ [d]) c = fOf p c := (fOf_prefix (List.prefix_append p [d]) h).symm
theorem fOf_last {p : List Int} {d : Int} : fOf (p ++ [d]) p.length = d := by
 rw [fOf, List.getD_eq_getElem?_getD, List.getElem?_append_right (Nat.le_refl _)]; simp
theorem sums_step {bs : Nat → BM} {p : List Int} {d : Int} {i : Nat} : sumsOf bs (p ++ [d]) i = sumsOf bs p i + (bs i).w p.length * d := by
 unfold sumsOf preSum
 rw [List.length_append, List.length_singleton, sumN, fOf_last, sumN_congr p.length (fun c hc => by rw [fOf_snoc hc])]
theorem inSpans_snoc {n : Nat} {ss : Nat → SV} {p : List Int} {d : Int} (h : InSpans n ss p) (h1 : (ss p.length).lo ≤ d) (h2 : d ≤ (ss p.length).hi) : InSpans n ss (p ++ [d]) := by
 intro c hc
 by_cases e : c < p.length
 ·rw [fOf_snoc e]; exact h c e
 ·have : c = p.length := by rw [List.length_append, List.length_singleton] at hc; omega
  subst this
  rw [fOf_last]; exact ⟨h1, h2⟩
def densN (s : SV) : Nat := (s.hi - s.lo + 1).toNat
theorem dens_len {s : SV} : (dens s).length = densN s := by simp [dens, densN]
theorem dens_step {s : SV} {t : Nat} (h : t < densN s) : (dens s).take (t + 1) = (dens s).take t ++ [s.lo + (t : Int)] := by
 have hl : t < (dens s).length := by rw [dens_len]; exact h
 rw [List.take_succ_eq_append_getElem hl]
 congr 1
 simp [dens]
theorem dens_all {s : SV} {t : Nat} (h : densN s ≤ t) : (dens s).take t = dens s := List.take_of_length_le (by rw [dens_len]; exact h)
theorem vis_prefix {n m : Nat} {ss : Nat → SV} {bs : Nat → BM} (hS : Shape n ss m bs) {r : Nat} {p g : List Int} (hr : p.length + r = n) (h : g ∈ visF n ss m bs r p) : p <+: g := by
 rw [visF_eq hS r p (by omega) (by omega)] at h
 exact ((enumF_mem r p g (by omega) (by omega)).1 h).2.2.1
theorem Pos.next {n m : Nat} {ss : Nat → SV} {bs : Nat → BM} (hS : Shape n ss m bs) {xs ys : List FX} {p : List Int} {r t : Nat} {d : Int} (h : Pos xs p) (hv : ys.map FX.f = ((dens (ss p.length)).take t).flatMap (fun d => visF n ss m bs r (p ++ [d]))) (hd : d = (ss p.length).lo + (t : Int)) (hr : p.length + (r + 1) = n) : Pos (xs ++ ys) (p ++ [d]) := by
 intro x hx g hg
 rcases List.mem_append.1 hx with h1 | h1
 ·exact h x h1 g ((List.prefix_append p [d]).trans hg)
 ·have h2 : x.f ∈ ys.map FX.f := List.mem_map.2 ⟨x, h1, rfl⟩
  rw [hv, List.mem_flatMap] at h2
  obtain ⟨d', h3, h4⟩ := h2
  have h5 := vis_prefix hS (by rw [List.length_append, List.length_singleton]; omega) h4
  have h6 : d' < d := by
   obtain ⟨i, hi, e⟩ := List.mem_iff_getElem.1 h3
   rw [List.length_take] at hi
   rw [List.getElem_take] at e
   simp only [dens, List.getElem_map, List.getElem_range] at e
   omega
  obtain ⟨t1, e1⟩ := h5
  obtain ⟨t2, e2⟩ := hg
  rw [← e1, ← e2, List.append_assoc, List.append_assoc, lexLt_append]
  exact .inl h6
section
variable (R : Nat → Prop) (n : Nat) (ss : Nat → SV) (m : Nat) (bs : Nat → BM) (sp l : Nat) (q : ItP) (J : List FX → (Nat → Prop) → World → Prop) (r : Nat) (p : List Int) (sa : Option Addr) (xs : List FX) (O : Nat → Prop) (W : World) (nb : Nat)
structure Node (t : Nat) (ys : List FX) (O1 : Nat → Prop) (W1 : World) : Prop where
 vis : ys.map FX.f = ((dens (ss p.length)).take t).flatMap (fun d => visF n ss m bs r (p ++ [d]))
 j : J (xs ++ ys) O1 W1
 evo : Evo R n q.fb p O W O1 W1
 nown : O1 nb
 nrow : ∃ g, IR 3 W1 nb m g
structure Inn (d : Int) (i : Nat) (ys : List FX) (O1 : Nat → Prop) (W1 : World) : Prop where
 j : J (xs ++ ys) O1 W1
 env : EnvF R n ss m bs sp l q (p ++ [d]) O1 W1
 evo : Evo R n q.fb p O W O1 W1
 nown : O1 nb
 nrow : ∃ g, IR 3 W1 nb m g ∧ ∀ j, j < i → g j = sumsOf bs (p ++ [d]) j
end
section
variable {R : Nat → Prop} {n : Nat} {ss : Nat → SV} {m : Nat} {bs : Nat → BM} {sp l : Nat} {q : ItP} {J Jx : List FX → (Nat → Prop) → World → Prop} {r : Nat} {p : List Int} {sa : Option Addr} {xs : List FX} {O : Nat → Prop} {W : World} {nb : Nat} {t : Nat} {ys : List FX} {O1 O2 : Nat → Prop} {W1 W2 : World} {d : Int} {i : Nat}
theorem Node.start (hE : EnvF R n ss m bs sp l q p O W) (hJ : Abide J) (hj : J xs O W) {g : Nat → Int} (hb : Below W.heap.size W W1) (hn : W.heap.size ≤ nb) (hr : IR 3 W1 nb m g) : Node R n ss m bs q J r p xs O W nb 0 [] (ownAlso O W W1) W1 :=
 ⟨rfl, by rw [List.append_nil]; exact hJ _ _ _ _ _ hj (Turn.of_below hb), hE.step hb, .inr ⟨hn, hr.lt⟩, g, hr⟩
theorem Node.put (hE : EnvF R n ss m bs sp l q p O W) (hJ : Abide J) (hp : p.length < n) (hnb : W.heap.size ≤ nb) (h : Node R n ss m bs q J r p xs O W nb t ys O1 W1) (d : Int) : Inn R n ss m bs sp l q J p xs O W nb d 0 ys O1 (W1.setCell ⟨q.fb, p.length, none⟩ (.int .i64 d)) := by
 have en := hE.evo h.evo
 have hne : nb ≠ q.fb := by have := hE.olt _ hE.rown; omega
 obtain ⟨f, hf1, hf2⟩ := h.evo.row
 have far : ∀ b, b ≠ q.fb → (W1.setCell ⟨q.fb, p.length, none⟩ (.int .i64 d)).heap[b]? = W1.heap[b]? := fun b hb => heap_setCell_other W1 ⟨q.fb, p.length, none⟩ b _ hb
 have hz : (W1.setCell ⟨q.fb, p.length, none⟩ (.int .i64 d)).heap.size = W1.heap.size := by simp
 have hrf : ¬ R q.fb := hE.disj _ hE.rown
 have e1 : Evo R n q.fb p O1 W1 O1 (W1.setCell ⟨q.fb, p.length, none⟩ (.int .i64 d)) :=
  ⟨fun _ h => h, fun _ h => .inl h, fun b hb => by rw [hz]; exact h.evo.lt b hb, by rw [hz]; exact Nat.le_refl _, fun b _ hn => far b hn, fun b hb => far b (fun e => hrf (by rw [← e]; exact hb)), _, hf1.set hp d, fun c hc => by rw [if_neg (by omega)]; exact hf2 c hc⟩
 have en2 := en.evo e1
 refine ⟨hJ _ _ _ _ _ h.j (Turn.setCell (en.rown) _), ?_, h.evo.trans e1, h.nown, ?_⟩
 ·refine { en2 with row := ⟨_, hf1.set hp d, fun c hc => ?_⟩ }
  rw [List.length_append, List.length_singleton] at hc
  by_cases e : c = p.length
  ·subst e; rw [if_pos rfl, fOf_last]
  ·rw [if_neg e, fOf_snoc (by omega)]; exact hf2 c (by omega)
 ·obtain ⟨g, hg⟩ := h.nrow
  exact ⟨g, hg.block (far nb hne), fun j hj => by omega⟩
theorem Inn.put (hE : EnvF R n ss m bs sp l q p O W) (hJ : Abide J) (hnb : W.heap.size ≤ nb) (h : Inn R n ss m bs sp l q J p xs O W nb d i ys O1 W1) (hi : i < m) {v : Int} (hv : v = sumsOf bs (p ++ [d]) i) : Inn R n ss m bs sp l q J p xs O W nb d (i + 1) ys O1 (W1.setCell ⟨nb, i, none⟩ (.int .i64 v)) := by
 have hne : nb ≠ q.fb := by have := hE.olt _ hE.rown; omega
 have far : ∀ b, b ≠ nb → (W1.setCell ⟨nb, i, none⟩ (.int .i64 v)).heap[b]? = W1.heap[b]? := fun b hb => heap_setCell_other W1 ⟨nb, i, none⟩ b _ hb
 have hz : (W1.setCell ⟨nb, i, none⟩ (.int .i64 v)).heap.size = W1.heap.size := by simp
 have hRn : ¬ R nb := fun h1 => by have := hE.rlt nb h1; omega
 have hOn : ¬ O nb := fun h1 => by have := hE.olt nb h1; omega
 have old : ∀ b, b < W.heap.size → (W1.setCell ⟨nb, i, none⟩ (.int .i64 v)).heap[b]? = W1.heap[b]? := fun b hb => far b (by omega)
 have cell : ∀ b, b < W.heap.size → (W1.setCell ⟨nb, i, none⟩ (.int .i64 v)).cell? ⟨b, 0, none⟩ = W1.cell? ⟨b, 0, none⟩ := fun b hb => World.cell?_of_block (old b hb)
 have en := h.env
 obtain ⟨f, hf1, hf2⟩ := h.env.row
 obtain ⟨g, hg1, hg2⟩ := h.nrow
 refine ⟨hJ _ _ _ _ _ h.j (Turn.setCell h.nown _), ?_, ?_, h.nown, _, hg1.set hi v, fun j hj => ?_⟩
 ·exact ⟨en.search.rests (fun b hb => old b (hE.rlt b hb)) (by rw [hz]; exact Nat.le_refl _), en.sown, (cell _ (hE.rlt _ hE.sown)).trans en.sbox, en.yown, (cell _ (hE.olt _ hE.yown)).trans en.ybox, en.fown, (cell _ (hE.olt _ hE.fown)).trans en.fbox, en.mown, (cell _ (hE.olt _ hE.mown)).trans en.mbox, en.rown, ⟨f, hf1.block (far _ (Ne.symm hne)), hf2⟩, en.apart, fun b hb => by rw [hz]; exact en.olt b hb, fun b hb => by rw [hz]; exact en.rlt b hb, en.disj⟩
 ·obtain ⟨f', hf1', hf2'⟩ := h.evo.row
  exact ⟨h.evo.sub, h.evo.new, fun b hb => by rw [hz]; exact h.evo.lt b hb, by rw [hz]; exact h.evo.size, fun b hb hn => (old b (hE.olt b hb)).trans (h.evo.own b hb hn), fun b hb => (old b (hE.rlt b hb)).trans (h.evo.rely b hb), f', hf1'.block (far _ (Ne.symm hne)), hf2'⟩
 ·by_cases e : j = i
  ·subst e; rw [if_pos rfl]; exact hv
  ·rw [if_neg e]; exact hg2 j (by omega)
theorem Inn.drew (h : Inn R n ss m bs sp l q J p xs O W nb d i ys O1 W1) (hJ : Abide J) : Inn R n ss m bs sp l q J p xs O W nb d i ys O1 W1.drew :=
 ⟨hJ _ _ _ _ _ h.j (Turn.drew O1 W1), ⟨⟨h.env.search.own, h.env.search.lt, h.env.search.img⟩, h.env.sown, h.env.sbox, h.env.yown, h.env.ybox, h.env.fown, h.env.fbox, h.env.mown, h.env.mbox, h.env.rown, h.env.row, h.env.apart, h.env.olt, h.env.rlt, h.env.disj⟩, ⟨h.evo.sub, h.evo.new, h.evo.lt, h.evo.size, h.evo.own, h.evo.rely, h.evo.row⟩, h.nown, h.nrow⟩
theorem Inn.sums (hE : EnvF R n ss m bs sp l q p O W) (hnb : W.heap.size ≤ nb) (h : Inn R n ss m bs sp l q J p xs O W nb d m ys O1 W1) : IntsR (Off O1 q.fb) W1 (some ⟨nb, 0, none⟩) m (sumsOf bs (p ++ [d])) := by
 obtain ⟨g, hg1, hg2⟩ := h.nrow
 exact .inr ⟨nb, 0, rfl, ⟨h.nown, by have := hE.olt _ hE.rown; omega⟩, hg1.lt, fun i hi => by rw [Nat.zero_add, hg1.cell hi, hg2 i hi]⟩
theorem Inn.back (hE : EnvF R n ss m bs sp l q p O W) (hnb : W.heap.size ≤ nb) (h : Inn R n ss m bs sp l q J p xs O W nb d m ys O1 W1) (hv : ys.map FX.f = ((dens (ss p.length)).take t).flatMap (fun d => visF n ss m bs r (p ++ [d]))) (ht : t < densN (ss p.length)) (hd : d = (ss p.length).lo + (t : Int)) {zs : List FX} (hz : zs.map FX.f = visF n ss m bs r (p ++ [d])) (hj : J (xs ++ ys ++ zs) O2 W2) (he : Evo R n q.fb (p ++ [d]) O1 W1 O2 W2) :
  Node R n ss m bs q J r p xs O W nb (t + 1) (ys ++ zs) O2 W2 := by
 have hne : nb ≠ q.fb := by have := hE.olt _ hE.rown; omega
 obtain ⟨g, hg1, hg2⟩ := h.nrow
 obtain ⟨f, hf1, hf2⟩ := he.row
 have e2 : Evo R n q.fb p O1 W1 O2 W2 := ⟨he.sub, he.new, he.lt, he.size, he.own, he.rely, f, hf1, fun c hc => by rw [hf2 c (by simp; omega), fOf_snoc hc]⟩
 refine ⟨?_, by rw [← List.append_assoc]; exact hj, h.evo.trans e2, he.sub _ h.nown, g, hg1.block (he.own _ h.nown hne)⟩
 rw [dens_step ht, List.flatMap_append, List.map_append, hv, hz, ← hd]
 simp
theorem Inn.broken (hc : canB n ss m bs (r + 1) (sumsOf bs p) = true) (hp : p.length + (r + 1) = n) (hv : ys.map FX.f = ((dens (ss p.length)).take t).flatMap (fun d => visF n ss m bs r (p ++ [d]))) (ht : t < densN (ss p.length)) (hd : d = (ss p.length).lo + (t : Int)) {zs : List FX} {k : Nat} (hz : zs.map FX.f = (visF n ss m bs r (p ++ [d])).take k) :
  ∃ k, (ys ++ zs).map FX.f = (visF n ss m bs (r + 1) p).take k := by
 have hpre : (ys ++ zs).map FX.f <+: visF n ss m bs (r + 1) p := by
  rw [visF, if_pos hc, show n - (r + 1) = p.length by omega, List.map_append, hv, hz]
  have e : dens (ss p.length) = (dens (ss p.length)).take t ++ d :: (dens (ss p.length)).drop (t + 1) := by
   have hl : t < (dens (ss p.length)).length := by rw [dens_len]; exact ht
   conv => lhs; rw [← List.take_append_drop t (dens (ss p.length))]
   rw [List.drop_eq_getElem_cons hl]
   congr 2
   simp [dens, hd]
  conv => rhs; rw [e]
  rw [List.flatMap_append, List.flatMap_cons]
  exact (List.prefix_append_right_inj _).2 ((List.take_prefix _ _).trans (List.prefix_append _ _))
 exact ⟨_, List.prefix_iff_eq_take.1 hpre⟩
theorem Node.all (hc : canB n ss m bs (r + 1) (sumsOf bs p) = true) (hp : p.length + (r + 1) = n) (h : Node R n ss m bs q J r p xs O W nb t ys O1 W1) (ht : densN (ss p.length) ≤ t) : ys.map FX.f = visF n ss m bs (r + 1) p := by
 rw [visF, if_pos hc, show n - (r + 1) = p.length by omega, h.vis, dens_all ht]
end
end Go.Proofs.YtgmpelhphnmknaaGreat
