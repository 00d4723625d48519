/- Texts put together: MoreLaw, MdLaw. -/
import Derived.Test.YtnfigielhnnpnaaDoorGbA
import Derived.Test.YtnfigielhnnpnaaDoorGhA
import Derived.Test.YtnfigielhnnpnaaDoorGgA
import Derived.Test.YtnfigielhnnpnaaDoorGmgA
namespace Go.Proofs.YtnfigielhnnpnaaDoor
open Go.RowKit
set_option linter.unusedVariables false
set_option linter.unusedSimpArgs false
/-- the beams of an image, and one more -/
def withB (m : Nat) (bs : Nat → BM) (p : BM) (i : Nat) : BM := if i < m then bs i else p
theorem withB_lt {m : Nat} {bs : Nat → BM} {p : BM} {i : Nat} (h : i < m) : withB m bs p i = bs i := if_pos h
theorem withB_end {m : Nat} {bs : Nat → BM} {p : BM} {i : Nat} (h : ¬ i < m) : withB m bs p i = p := if_neg h
theorem beamB_iff {n : Nat} {b : BM} : beamB n b = true ↔ (∀ k, k < b.wn → 1 ≤ b.ws k ∧ b.ws k ≤ 1000000) ∧ setB n b.cn b.cs = true ∧ b.wn = b.cn ∧ 0 ≤ b.lo ∧ b.lo ≤ b.hi ∧ b.hi ≤ 1000000000000 := by
  unfold beamB spanB
  simp only [Bool.and_eq_true, allUpto_iff, inB_iff, decide_eq_true_eq, beq_iff_eq, and_assoc]
theorem more_shape {n m : Nat} {ss : Nat → SV} {bs : Nat → BM} {p : BM} (hS : Shape n ss m bs) (hm : m < 20) (hp : beamB n p = true) : Shape n ss (m + 1) (withB m bs p) := by
  obtain ⟨h1, h2, h3, h4⟩ := beamB_iff.1 hp
  refine ⟨hS.n1, hS.n40, by omega, hS.span, fun i hi => ?_, fun i hi => ?_, fun i hi => ?_, fun i hi => ?_⟩
  · by_cases e : i < m
    · rw [withB_lt e]; exact hS.wn i e
    · rw [withB_end e]; exact h3
  · by_cases e : i < m
    · rw [withB_lt e]; exact hS.set i e
    · rw [withB_end e]; exact h2
  · by_cases e : i < m
    · rw [withB_lt e]; exact hS.weight i e
    · rw [withB_end e]; exact fun k hk => h1 k (by omega)
  · by_cases e : i < m
    · rw [withB_lt e]; exact hS.bound i e
    · rw [withB_end e]; exact h4
theorem check_of {n m : Nat} {ss : Nat → SV} {bs : Nat → BM} (hS : Shape n ss m bs) (h : prodN ss n ≤ 200000) : checkN n ss m bs = 0 := by
  unfold checkN longB
  rw [if_neg (by rw [shapeB_iff.2 hS]; decide), if_neg (by rw [decide_eq_true_eq]; omega)]
theorem check_prod {n m : Nat} {ss : Nat → SV} {bs : Nat → BM} (hC : checkN n ss m bs = 0) : prodN ss n ≤ 200000 := by
  have hS := checkN_shape hC
  unfold checkN longB at hC
  rw [if_neg (by rw [shapeB_iff.2 hS]; decide)] at hC
  by_cases h : 200000 < prodN ss n
  · rw [if_pos (decide_eq_true h)] at hC; cases hC
  · omega
theorem more_check {n m : Nat} {ss : Nat → SV} {bs : Nat → BM} {p : BM} (hC : checkN n ss m bs = 0) (hm : m < 20) (hp : beamB n p = true) : checkN n ss (m + 1) (withB m bs p) = 0 := check_of (more_shape (checkN_shape hC) hm hp) (check_prod hC)
theorem more_agrees {m : Nat} {bs : Nat → BM} {p : BM} {f : Nat → Int} : agreesB (m + 1) (withB m bs p) f = (agreesB m bs f && inB (ofN p f) p.lo p.hi) := by
  unfold agreesB
  rw [Bool.eq_iff_iff, Bool.and_eq_true, allUpto_iff, allUpto_iff]
  constructor
  · intro h
    refine ⟨fun i hi => ?_, ?_⟩
    · have := h i (by omega); rwa [withB_lt hi] at this
    · have := h m (by omega); rwa [withB_end (by omega)] at this
  · rintro ⟨h1, h2⟩ i hi
    by_cases e : i < m
    · rw [withB_lt e]; exact h1 i e
    · rw [withB_end e]; exact h2
theorem moreB_all {n m : Nat} {ss : Nat → SV} {bs : Nat → BM} {p : BM} : allF n ss (m + 1) (withB m bs p) = (allF n ss m bs).filter (fun g => inB (ofN p (fOf g)) p.lo p.hi) := by
  refine sorted_filter allF_sorted allF_sorted (fun g => ?_)
  rw [allF_mem, allF_mem, more_agrees, Bool.and_eq_true]
  constructor
  · rintro ⟨⟨h1, h2⟩, h3, h4⟩; exact ⟨⟨h1, h3, h4⟩, h2⟩
  · rintro ⟨⟨h1, h3, h4⟩, h2⟩; exact ⟨⟨h1, h2⟩, h3, h4⟩
theorem prod_within {ss st : Nat → SV} : ∀ k, (∀ i, i < k → (ss i).lo ≤ (st i).lo ∧ (st i).lo ≤ (st i).hi ∧ (st i).hi ≤ (ss i).hi) → prodN st k ≤ prodN ss k
  | 0, _ => by simp [prodN]
  | k + 1, h => by
    have ih := prod_within k (fun i hi => h i (by omega))
    have h1 := prodN_pos (ss := ss) k (fun i hi => by have := h i (by omega); omega)
    have h0 := prodN_pos (ss := st) k (fun i hi => by have := h i (by omega); omega)
    have h2 := h k (by omega)
    rw [prodN, prodN]
    exact Int.mul_le_mul ih (by omega) (by omega) (by omega)
theorem tight_in {n m : Nat} {ss : Nat → SV} {bs : Nat → BM} (hA : allF n ss m bs ≠ []) {i : Nat} (hi : i < n) : (ss i).lo ≤ (bnd (fun f => fOf f i) (allF n ss m bs)).lo ∧ (bnd (fun f => fOf f i) (allF n ss m bs)).lo ≤ (bnd (fun f => fOf f i) (allF n ss m bs)).hi ∧ (bnd (fun f => fOf f i) (allF n ss m bs)).hi ≤ (ss i).hi := by
  have hB := bnd_is (fun f => fOf f i) hA
  obtain ⟨f, hf, e⟩ := hB.lo
  obtain ⟨g, hg, e2⟩ := hB.hi
  have h1 := (allF_mem.1 hf).2.2 i hi
  have h2 := (allF_mem.1 hg).2.2 i hi
  have h3 := hB.all f hf
  try dsimp only at e e2 h3
  omega
theorem tight_shape {n m : Nat} {ss : Nat → SV} {bs : Nat → BM} (hS : Shape n ss m bs) (hA : allF n ss m bs ≠ []) : Shape n (fun i => bnd (fun f => fOf f i) (allF n ss m bs)) m bs :=
  ⟨hS.n1, hS.n40, hS.m20, fun i hi => by
    have h1 := tight_in hA hi
    have h2 := hS.span i hi
    try dsimp only
    omega, hS.wn, hS.set, hS.weight, hS.bound⟩
theorem tight_check {n m : Nat} {ss : Nat → SV} {bs : Nat → BM} (hC : checkN n ss m bs = 0) (hA : allF n ss m bs ≠ []) : checkN n (fun i => bnd (fun f => fOf f i) (allF n ss m bs)) m bs = 0 :=
  check_of (tight_shape (checkN_shape hC) hA) (Int.le_trans (prod_within (ss := ss) n (fun i hi => tight_in hA hi)) (check_prod hC))
theorem tight_all {n m : Nat} {ss : Nat → SV} {bs : Nat → BM} (hA : allF n ss m bs ≠ []) : allF n (fun i => bnd (fun f => fOf f i) (allF n ss m bs)) m bs = allF n ss m bs := by
  refine sorted_eq allF_sorted allF_sorted (fun g => ?_)
  rw [allF_mem]
  constructor
  · rintro ⟨h1, h2, h3⟩
    rw [allF_mem]
    refine ⟨h1, h2, fun c hc => ?_⟩
    have h4 := h3 c hc
    have h5 := tight_in hA hc
    try dsimp only at h4
    omega
  · intro h
    obtain ⟨h1, h2, _⟩ := allF_mem.1 h
    exact ⟨h1, h2, fun c _ => (bnd_is (fun f => fOf f c) hA).all g h⟩
theorem more_in {n m : Nat} {ss : Nat → SV} {bs : Nat → BM} {p : BM} (hK : allF n ss (m + 1) (withB m bs p) ≠ []) (i : Nat) : (bnd (fun f => fOf f i) (allF n ss m bs)).lo ≤ (bnd (fun f => fOf f i) (allF n ss (m + 1) (withB m bs p))).lo ∧ (bnd (fun f => fOf f i) (allF n ss (m + 1) (withB m bs p))).hi ≤ (bnd (fun f => fOf f i) (allF n ss m bs)).hi := by
  have hsub : ∀ f, f ∈ allF n ss (m + 1) (withB m bs p) → f ∈ allF n ss m bs := fun f hf => by
    rw [moreB_all] at hf
    exact (List.mem_filter.1 hf).1
  have hA : allF n ss m bs ≠ [] := fun e => by
    obtain ⟨f, hf⟩ := List.exists_mem_of_ne_nil _ hK
    have := hsub f hf
    rw [e] at this
    cases this
  have := (bnd_is (fun f => fOf f i) hK).sub (bnd_is (fun f => fOf f i) hA) hsub
  exact ⟨this.1, this.2.1⟩
theorem more_len {n m : Nat} {ss : Nat → SV} {bs : Nat → BM} {p : BM} : (allF n ss (m + 1) (withB m bs p)).length ≤ (allF n ss m bs).length := by
  rw [moreB_all]
  exact List.length_filter_le _ _
end Go.Proofs.YtnfigielhnnpnaaDoor
namespace Go.Proofs.YtnfigielhnnpnaaDoor
open Go.RowKit
set_option linter.unusedVariables false
set_option linter.unusedSimpArgs false
/-- two images as a list -/
def im2 (x y : IM) (i : Nat) : IM := if i = 0 then x else y
/-- the beams of both -/
def bm2 (x y : IM) (i : Nat) : BM := if i < x.bn then x.bs i else y.bs (i - x.bn)
/-- the cells of both -/
def sv2 (x y : IM) (c : Nat) : SV := ⟨max (x.ss c).lo (y.ss c).lo, min (x.ss c).hi (y.ss c).hi⟩
theorem mgC2 {x y : IM} : mgC (im2 x y) 2 = sv2 x y := by
  funext c
  show (⟨max (max (x.ss c).lo (x.ss c).lo) (y.ss c).lo, min (min (x.ss c).hi (x.ss c).hi) (y.ss c).hi⟩ : SV) = ⟨_, _⟩
  rw [SV.mk.injEq]
  constructor <;> omega
theorem sv2_comm {x y : IM} : sv2 x y = sv2 y x := by
  funext c
  unfold sv2
  rw [SV.mk.injEq]
  constructor <;> omega
theorem mgB2 {x y : IM} : mgB (im2 x y) 2 = (List.range x.bn).map x.bs ++ (List.range y.bn).map y.bs := by
  show ([] ++ (List.range x.bn).map x.bs) ++ (List.range y.bn).map y.bs = _
  rw [List.nil_append]
theorem mgB2_len {x y : IM} : (mgB (im2 x y) 2).length = x.bn + y.bn := by rw [mgB2]; simp
theorem mgOk2 {n : Nat} {x y : IM} (hx : ∀ c, c < n → (x.ss c).lo ≤ (x.ss c).hi) : mgOk n (im2 x y) 2 = allUpto n (fun c => decide ((sv2 x y c).lo ≤ (sv2 x y c).hi)) := by
  show ((true && allUpto n (fun c => decide ((mgC (im2 x y) 1 c).lo ≤ (mgC (im2 x y) 1 c).hi))) && allUpto n (fun c => decide ((mgC (im2 x y) 2 c).lo ≤ (mgC (im2 x y) 2 c).hi))) = _
  rw [mgC2, Bool.true_and, allUpto_true (f := fun c => decide ((mgC (im2 x y) 1 c).lo ≤ (mgC (im2 x y) 1 c).hi)) (fun c hc => decide_eq_true (by
    show max (x.ss c).lo (x.ss c).lo ≤ min (x.ss c).hi (x.ss c).hi
    have := hx c hc
    omega)), Bool.true_and]
/-- the guards that are held -/
structure MdYes (n : Nat) (x y : IM) : Prop where
  sx : Shape n x.ss x.bn x.bs
  sy : Shape n y.ss y.bn y.bs
  few : prodN x.ss n ≤ 5000
section
variable {n : Nat} {x y : IM} {L : List BM}
theorem bm2_get {i : Nat} (h : L.map BM.strip = (mgB (im2 x y) 2).map BM.strip) (hi : i < L.length) : (beamL L i).strip = (bm2 x y i).strip := by
  have hl : L.length = x.bn + y.bn := by have := congrArg List.length h; simpa [mgB2] using this
  have h1 : (L.map BM.strip)[i]? = ((mgB (im2 x y) 2).map BM.strip)[i]? := by rw [h]
  rw [mgB2, List.getElem?_map, List.getElem?_map, List.getElem?_eq_getElem hi] at h1
  have e1 : beamL L i = L[i] := by unfold beamL; rw [List.getD_eq_getElem?_getD, List.getElem?_eq_getElem hi]; rfl
  rw [e1]
  by_cases e : i < x.bn
  · rw [List.getElem?_append_left (by simpa using e)] at h1
    simp [e] at h1
    rw [h1]
    unfold bm2
    rw [if_pos e]
  · rw [List.getElem?_append_right (by simpa using e)] at h1
    have e2 : i - x.bn < y.bn := by omega
    simp [e2] at h1
    rw [h1]
    unfold bm2
    rw [if_neg e]
theorem strip_parts {p q : BM} (h : p.strip = q.strip) : p.cn = q.cn ∧ p.wn = q.wn ∧ p.lo = q.lo ∧ p.hi = q.hi ∧ p.cs = q.cs ∧ p.ws = q.ws := by
  simp only [BM.strip, BM.mk.injEq] at h
  obtain ⟨_, a1, _, _, a2, _, a3, a4, a5, a6⟩ := h
  exact ⟨a1, a2, a3, a4, a5, a6⟩
theorem ofN_strip {p q : BM} (h : p.strip = q.strip) (f : Nat → Int) : ofN p f = ofN q f := by
  obtain ⟨h1, _, _, _, h5, h6⟩ := strip_parts h
  unfold ofN
  rw [h1, h5, h6]
theorem mg_len (h : L.map BM.strip = (mgB (im2 x y) 2).map BM.strip) : L.length = x.bn + y.bn := by have := congrArg List.length h; simpa [mgB2] using this
theorem md_agrees (h : L.map BM.strip = (mgB (im2 x y) 2).map BM.strip) (f : Nat → Int) : agreesB L.length (beamL L) f = (agreesB x.bn x.bs f && agreesB y.bn y.bs f) := by
  have hl := mg_len h
  unfold agreesB
  rw [Bool.eq_iff_iff, Bool.and_eq_true, allUpto_iff, allUpto_iff, allUpto_iff]
  have e : ∀ i, i < L.length → inB (ofN (beamL L i) f) (beamL L i).lo (beamL L i).hi = inB (ofN (bm2 x y i) f) (bm2 x y i).lo (bm2 x y i).hi := fun i hi => by
    have h1 := bm2_get h hi
    obtain ⟨_, _, h3, h4, _, _⟩ := strip_parts h1
    rw [ofN_strip h1 f, h3, h4]
  constructor
  · intro hh
    refine ⟨fun i hi => ?_, fun i hi => ?_⟩
    · have := hh i (by omega)
      rw [e i (by omega)] at this
      unfold bm2 at this
      rwa [if_pos hi] at this
    · have := hh (x.bn + i) (by omega)
      rw [e _ (by omega)] at this
      unfold bm2 at this
      rwa [if_neg (by omega), show x.bn + i - x.bn = i by omega] at this
  · rintro ⟨h1, h2⟩ i hi
    rw [e i hi]
    unfold bm2
    by_cases q : i < x.bn
    · rw [if_pos q]; exact h1 i q
    · rw [if_neg q]; exact h2 _ (by omega)
theorem md_field {k : Nat} {f : Nat → Int} : fieldB n (sv2 x y) k f = (fieldB n x.ss k f && fieldB n y.ss k f) := by
  unfold fieldB
  rw [Bool.eq_iff_iff]
  simp only [Bool.and_eq_true, allUpto_iff, inB_iff, beq_iff_eq, sv2]
  constructor
  · rintro ⟨h1, h2⟩
    exact ⟨⟨fun i hi => by have := h1 i hi; omega, h2⟩, fun i hi => by have := h1 i hi; omega, h2⟩
  · rintro ⟨⟨h1, h2⟩, h3, _⟩
    exact ⟨fun i hi => by have := h1 i hi; have := h3 i hi; omega, h2⟩
theorem md_none {k : Nat} {f : Nat → Int} (ho : allUpto n (fun c => decide ((sv2 x y c).lo ≤ (sv2 x y c).hi)) = false) : (fieldB n x.ss k f && fieldB n y.ss k f) = false := by
  rw [← md_field]
  cases e : fieldB n (sv2 x y) k f
  · rfl
  · unfold fieldB at e
    rw [Bool.and_eq_true, allUpto_iff, beq_iff_eq] at e
    obtain ⟨h1, rfl⟩ := e
    rw [allUpto_true (fun c hc => decide_eq_true (by have := inB_iff.1 (h1 c (by omega)); omega))] at ho
    cases ho
theorem md_shape (hX : Shape n x.ss x.bn x.bs) (hY : Shape n y.ss y.bn y.bs) (h : L.map BM.strip = (mgB (im2 x y) 2).map BM.strip) (ho : allUpto n (fun c => decide ((sv2 x y c).lo ≤ (sv2 x y c).hi)) = true) (hl : x.bn + y.bn ≤ 20) : Shape n (sv2 x y) L.length (beamL L) := by
  have hL := mg_len h
  have g : ∀ i, i < L.length → ∃ q : BM, (beamL L i).strip = q.strip ∧ q.wn = q.cn ∧ setB n q.cn q.cs = true ∧ (∀ k, k < q.cn → 1 ≤ q.ws k ∧ q.ws k ≤ 1000000) ∧ 0 ≤ q.lo ∧ q.lo ≤ q.hi ∧ q.hi ≤ 1000000000000 := fun i hi => by
    refine ⟨_, bm2_get h hi, ?_⟩
    unfold bm2
    by_cases q : i < x.bn
    · rw [if_pos q]
      exact ⟨hX.wn i q, hX.set i q, fun k hk => hX.weight i q k hk, hX.bound i q⟩
    · rw [if_neg q]
      have q2 : i - x.bn < y.bn := by omega
      exact ⟨hY.wn _ q2, hY.set _ q2, fun k hk => hY.weight _ q2 k hk, hY.bound _ q2⟩
  refine ⟨hX.n1, hX.n40, by omega, fun c hc => ?_, fun i hi => ?_, fun i hi => ?_, fun i hi => ?_, fun i hi => ?_⟩
  · have h1 := hX.span c hc
    have h2 := hY.span c hc
    have h3 := of_decide_eq_true (allUpto_iff.1 ho c hc)
    refine ⟨?_, h3, ?_⟩
    · show 0 ≤ max _ _; omega
    · show min _ _ ≤ 1000; omega
  · obtain ⟨q, e, h1, h2, h3, h4⟩ := g i hi
    obtain ⟨e1, e2, e3, e4, e5, e6⟩ := strip_parts e
    rw [e1, e2]; exact h1
  · obtain ⟨q, e, h1, h2, h3, h4⟩ := g i hi
    obtain ⟨e1, e2, e3, e4, e5, e6⟩ := strip_parts e
    rw [e1, e5]; exact h2
  · obtain ⟨q, e, h1, h2, h3, h4⟩ := g i hi
    obtain ⟨e1, e2, e3, e4, e5, e6⟩ := strip_parts e
    rw [e1, e6]; exact h3
  · obtain ⟨q, e, h1, h2, h3, h4⟩ := g i hi
    obtain ⟨e1, e2, e3, e4, e5, e6⟩ := strip_parts e
    rw [e3, e4]; exact h4
theorem md_few (hY : MdYes n x y) (ho : allUpto n (fun c => decide ((sv2 x y c).lo ≤ (sv2 x y c).hi)) = true) : prodN (sv2 x y) n ≤ 5000 := by
  refine Int.le_trans (prod_within (ss := x.ss) n (fun c hc => ?_)) hY.few
  have h3 := of_decide_eq_true (allUpto_iff.1 ho c hc)
  refine ⟨?_, h3, ?_⟩
  · show _ ≤ max _ _; omega
  · show min _ _ ≤ _; omega
theorem md_check (hY : MdYes n x y) (h : L.map BM.strip = (mgB (im2 x y) 2).map BM.strip) (ho : allUpto n (fun c => decide ((sv2 x y c).lo ≤ (sv2 x y c).hi)) = true) (hl : x.bn + y.bn ≤ 20) : checkN n (sv2 x y) L.length (beamL L) = 0 :=
  check_of (md_shape hY.sx hY.sy h ho hl) (Int.le_trans (md_few hY ho) (by decide))
theorem md_sub (h : L.map BM.strip = (mgB (im2 x y) 2).map BM.strip) : ∀ f, f ∈ allF n (sv2 x y) L.length (beamL L) → f ∈ allF n x.ss x.bn x.bs := fun f hf => by
  rw [allF_mem] at hf ⊢
  obtain ⟨h1, h2, h3⟩ := hf
  rw [md_agrees h, Bool.and_eq_true] at h1
  exact ⟨h1.1, h2, fun c hc => by have h4 : max (x.ss c).lo (y.ss c).lo ≤ fOf f c ∧ fOf f c ≤ min (x.ss c).hi (y.ss c).hi := h3 c hc; omega⟩
theorem md_all {L' : List BM} (h : L.map BM.strip = (mgB (im2 x y) 2).map BM.strip) (h' : L'.map BM.strip = (mgB (im2 y x) 2).map BM.strip) : allF n (sv2 x y) L.length (beamL L) = allF n (sv2 y x) L'.length (beamL L') := by
  refine sorted_eq allF_sorted allF_sorted (fun g => ?_)
  rw [allF_mem, allF_mem, md_agrees h, md_agrees h', sv2_comm, Bool.and_comm]
end
end Go.Proofs.YtnfigielhnnpnaaDoor
