/- Events: hits in order, swept into chunks; and what each chunk is. No program here. -/
import Derived.Test.YtgcepjminlapiaaBase
namespace Go.Proofs.Ytgcepjminlapiaa
set_option linter.unusedVariables false
set_option linter.unusedSimpArgs false
/-- what the sweep holds behind the hits P: the chunks cs, the last of which ends at e -/
structure Swept (lo hi : Nat → Int) (film : Nat → Bool) (P : List Nat) (cs : List (List Nat)) (e : Int) : Prop where
  flat : cs.flatten = P.filter (fun i => !film i)
  ne : ∀ c ∈ cs, c ≠ []
  linked : ∀ c ∈ cs, ∀ a x b, c = a ++ x :: b → a ≠ [] → ∃ y ∈ a, lo x ≤ hi y
  apart : cs.Pairwise (fun c c' => ∀ y ∈ c, ∀ x ∈ c', hi y < lo x)
  last : ∀ ds c, cs = ds ++ [c] → (∀ y ∈ c, hi y ≤ e) ∧ ∃ y ∈ c, hi y = e
section
variable {lo hi : Nat → Int} {film : Nat → Bool} {P : List Nat} {cs : List (List Nat)} {e : Int}
theorem swept_nil : Swept lo hi film [] [] e := ⟨rfl, fun c h => by simp at h, fun c h => by simp at h, List.Pairwise.nil, fun ds c h => by simp at h⟩
theorem Swept.mem (h : Swept lo hi film P cs e) {c : List Nat} (hc : c ∈ cs) {x : Nat} (hx : x ∈ c) : x ∈ P ∧ film x = false := by
  have : x ∈ cs.flatten := List.mem_flatten.2 ⟨c, hc, hx⟩
  rw [h.flat, List.mem_filter] at this
  simpa using this
theorem swept_film (h : Swept lo hi film P cs e) {i : Nat} (hi' : film i = true) : Swept lo hi film (P ++ [i]) cs e :=
  ⟨by rw [List.filter_append, h.flat]; simp [hi'], h.ne, h.linked, h.apart, h.last⟩
theorem swept_new (h : Swept lo hi film P cs e) {i : Nat} (hf : film i = false) (hs : ∀ y ∈ P, lo y ≤ lo i) (hn : cs = [] ∨ e < lo i) : Swept lo hi film (P ++ [i]) (cs ++ [[i]]) (hi i) := by
  refine ⟨?_, ?_, ?_, ?_, ?_⟩
  · rw [List.filter_append, List.flatten_append, h.flat]; simp [hf]
  · intro c hc
    rcases List.mem_append.1 hc with hc | hc
    · exact h.ne c hc
    · simp at hc; rw [hc]; simp
  · intro c hc a x b hab ha
    rcases List.mem_append.1 hc with hc | hc
    · exact h.linked c hc a x b hab ha
    · simp at hc
      rw [hc] at hab
      cases a with
      | nil => exact absurd rfl ha
      | cons y t =>
        have := congrArg List.length hab
        simp at this
  · rw [List.pairwise_append]
    refine ⟨h.apart, by simp, ?_⟩
    intro c hc d hd y hy x hx
    simp at hd
    subst hd
    simp at hx
    subst hx
    rcases hn with h0 | h0
    · rw [h0] at hc; simp at hc
    · obtain ⟨ds, l, hl⟩ : ∃ ds l, cs = ds ++ [l] := by
        rcases List.eq_nil_or_concat cs with h1 | ⟨ds, l, h1⟩
        · rw [h1] at hc; simp at hc
        · exact ⟨ds, l, by simpa using h1⟩
      have hlast := h.last ds l hl
      rw [hl] at hc
      rcases List.mem_append.1 hc with hc' | hc'
      · have hne := h.ne l (by rw [hl]; simp)
        obtain ⟨z, hz⟩ := List.exists_mem_of_ne_nil l hne
        have hap := h.apart
        rw [hl, List.pairwise_append] at hap
        have h1 := hap.2.2 c hc' l (by simp) y hy z hz
        have h2 := hs z (h.mem (by rw [hl]; simp) hz).1
        omega
      · simp at hc'
        subst hc'
        have := hlast.1 y hy
        omega
  · intro ds c hdc
    have hcc := List.append_inj_right' hdc (by simp)
    simp at hcc
    subst hcc
    simp
theorem swept_join {ds : List (List Nat)} {c : List Nat} (h : Swept lo hi film P (ds ++ [c]) e) {i : Nat} (hf : film i = false) (hs : ∀ y ∈ P, lo y ≤ lo i) (hj : lo i ≤ e) : Swept lo hi film (P ++ [i]) (ds ++ [c ++ [i]]) (max e (hi i)) := by
  obtain ⟨hl1, y0, hy0, hy0e⟩ := h.last ds c rfl
  have hap := h.apart
  rw [List.pairwise_append] at hap
  refine ⟨?_, ?_, ?_, ?_, ?_⟩
  · have := h.flat
    simp only [List.flatten_append, List.flatten_cons, List.flatten_nil, List.append_nil] at this ⊢
    rw [List.filter_append, ← this]; simp [hf]
  · intro d hd
    rcases List.mem_append.1 hd with hd | hd
    · exact h.ne d (List.mem_append_left _ hd)
    · simp at hd; rw [hd]; simp
  · intro d hd a x b hab ha
    rcases List.mem_append.1 hd with hd | hd
    · exact h.linked d (List.mem_append_left _ hd) a x b hab ha
    · simp at hd
      rw [hd] at hab
      rcases List.eq_nil_or_concat b with hb | ⟨b', z, hb⟩
      · rw [hb] at hab
        have h1 := List.append_inj_left' hab (by simp)
        have h2 := List.append_inj_right' hab (by simp)
        simp at h2
        subst h2
        subst h1
        exact ⟨y0, hy0, by omega⟩
      · have hb' : b = b' ++ [z] := by simpa using hb
        rw [hb'] at hab
        have e1 : c ++ [i] = (a ++ x :: b') ++ [z] := by rw [hab]; simp
        have h1 := List.append_inj_left' e1 (by simp)
        exact h.linked c (by simp) a x b' h1 ha
  · rw [List.pairwise_append]
    refine ⟨hap.1, by simp, ?_⟩
    intro d hd d' hd' y hy x hx
    simp at hd'
    subst hd'
    have h1 := hap.2.2 d hd c (by simp) y hy
    rcases List.mem_append.1 hx with hx | hx
    · exact h1 x hx
    · simp at hx
      subst hx
      have h2 := h1 y0 hy0
      have h3 := hs y0 (h.mem (by simp) hy0).1
      omega
  · intro ds' c' hdc
    have hcc := List.append_inj_right' hdc (by simp)
    simp at hcc
    subst hcc
    refine ⟨fun y hy => ?_, ?_⟩
    · rcases List.mem_append.1 hy with hy | hy
      · have := hl1 y hy; omega
      · simp at hy; subst hy; omega
    · by_cases hm : e ≤ hi i
      · exact ⟨i, by simp, by omega⟩
      · exact ⟨y0, by simp [hy0], by omega⟩
end
theorem flat_len : ∀ (cs : List (List Nat)), (∀ c ∈ cs, c ≠ []) → cs.length ≤ cs.flatten.length ∧ ∀ c ∈ cs, c.length ≤ cs.flatten.length
  | [], _ => ⟨by simp, fun c h => by simp at h⟩
  | d :: cs, h => by
    obtain ⟨h1, h2⟩ := flat_len cs (fun c hc => h c (by simp [hc]))
    have hd : 0 < d.length := List.length_pos_iff.2 (h d (by simp))
    rw [List.flatten_cons, List.length_append, List.length_cons]
    refine ⟨by omega, fun c hc => ?_⟩
    rcases List.mem_cons.1 hc with e | e
    · subst e; omega
    · have := h2 c e; omega
theorem Swept.bounds {lo hi : Nat → Int} {film : Nat → Bool} {P : List Nat} {cs : List (List Nat)} {e : Int} (h : Swept lo hi film P cs e) : cs.length ≤ P.length ∧ ∀ c ∈ cs, c.length ≤ P.length := by
  obtain ⟨h1, h2⟩ := flat_len cs h.ne
  have h3 : cs.flatten.length ≤ P.length := by rw [h.flat]; exact List.length_filter_le _ _
  exact ⟨by omega, fun c hc => by have := h2 c hc; omega⟩
/-! all hits swept: what each chunk is -/
/-- the order of hits: by their least times, then by their numbers -/
def before (lo : Nat → Int) (i k : Nat) : Prop := lo i < lo k ∨ (lo i = lo k ∧ i < k)
structure AllSwept (m : Nat) (lo hi : Nat → Int) (film : Nat → Bool) (cs : List (List Nat)) : Prop where
  cover : ∀ i, i < m → film i = false → ∃ c ∈ cs, i ∈ c
  inside : ∀ c ∈ cs, ∀ i ∈ c, i < m ∧ film i = false
  sorted : cs.flatten.Pairwise (before lo)
  ne : ∀ c ∈ cs, c ≠ []
  linked : ∀ c ∈ cs, ∀ a x b, c = a ++ x :: b → a ≠ [] → ∃ y ∈ a, lo x ≤ hi y
  apart : cs.Pairwise (fun c c' => ∀ y ∈ c, ∀ x ∈ c', hi y < lo x)
theorem Swept.all {m : Nat} {lo hi : Nat → Int} {film : Nat → Bool} {L : List Nat} {cs : List (List Nat)} {e : Int} (h : Swept lo hi film L cs e) (hL : ∀ i, i ∈ L ↔ i < m) (hs : L.Pairwise (before lo)) : AllSwept m lo hi film cs := by
  refine ⟨fun i hi hf => ?_, fun c hc i hi' => ?_, ?_, h.ne, h.linked, h.apart⟩
  · have : i ∈ cs.flatten := by rw [h.flat, List.mem_filter]; exact ⟨(hL i).2 hi, by simp [hf]⟩
    exact List.mem_flatten.1 this
  · have := h.mem hc hi'
    exact ⟨(hL i).1 this.1, this.2⟩
  · rw [h.flat]; exact hs.sublist List.filter_sublist
def touches (lo hi : Nat → Int) (i k : Nat) : Prop := lo i ≤ hi k ∧ lo k ≤ hi i
section
variable {m : Nat} {lo hi : Nat → Int} {film : Nat → Bool} {cs : List (List Nat)}
/-- what touches a hit of a chunk is in the chunk -/
theorem AllSwept.closed (h : AllSwept m lo hi film cs) {ds es : List (List Nat)} {c : List Nat} (hc : cs = ds ++ c :: es) {i k : Nat} (hi' : i < m) (hf : film i = false) (hk : k ∈ c) (ht : touches lo hi i k) : i ∈ c := by
  obtain ⟨d, hd, hid⟩ := h.cover i hi' hf
  have hap := h.apart
  rw [hc, List.pairwise_append] at hap
  rw [hc] at hd
  rcases List.mem_append.1 hd with hd | hd
  · have := hap.2.2 d hd c (by simp) i hid k hk
    have := ht.2; omega
  · rcases List.mem_cons.1 hd with hd | hd
    · rw [← hd]; exact hid
    · have := (List.pairwise_cons.1 hap.2.1).1 d hd k hk i hid
      have := ht.1; omega
/-- whatever holds its first hit, and all that touches, holds the whole chunk -/
theorem AllSwept.reach (h : AllSwept m lo hi film cs) (hv : ∀ i, i < m → film i = false → lo i ≤ hi i) {ds es : List (List Nat)} {x : Nat} {t : List Nat} (hc : cs = ds ++ (x :: t) :: es) {I : Nat → Prop} (hx : I x) (hcl : ∀ i k, i < m → film i = false → k ∈ x :: t → I k → touches lo hi i k → I i) : ∀ y ∈ x :: t, I y := by
  have hm : x :: t ∈ cs := by rw [hc]; simp
  have hsort : (x :: t).Pairwise (before lo) := by
    have := h.sorted
    rw [hc] at this
    simp only [List.flatten_append, List.flatten_cons] at this
    exact (List.pairwise_append.1 (List.pairwise_append.1 this).2.1).1
  have key : ∀ n a b, a.length = n → x :: t = a ++ b → ∀ y ∈ a, I y := by
    intro n
    induction n with
    | zero => intro a b ha _ y hy; rw [List.length_eq_zero_iff.1 ha] at hy; simp at hy
    | succ n ih =>
      intro a b ha hab y hy
      rcases List.eq_nil_or_concat a with h0 | ⟨a', z, h0⟩
      · rw [h0] at hy; simp at hy
      · have h0' : a = a' ++ [z] := by simpa using h0
        have hal : a'.length = n := by rw [h0'] at ha; simpa using ha
        have hab' : x :: t = a' ++ (z :: b) := by rw [hab, h0']; simp
        have ih' := ih a' (z :: b) hal hab'
        rw [h0'] at hy
        rcases List.mem_append.1 hy with hy | hy
        · exact ih' y hy
        · simp at hy
          subst hy
          by_cases hn : a' = []
          · rw [hn] at hab'
            simp at hab'
            rw [← hab'.1]; exact hx
          · obtain ⟨u, hu, hlu⟩ := h.linked (x :: t) hm a' y b hab' hn
            have hym : y ∈ x :: t := by rw [hab']; simp
            have hum : u ∈ x :: t := by rw [hab']; simp [hu]
            obtain ⟨y1, y2⟩ := h.inside _ hm y hym
            have hbe : before lo u y := by
              rw [hab', List.pairwise_append] at hsort
              exact hsort.2.2 u hu y (by simp)
            refine hcl y u y1 y2 hum (ih' u hu) ⟨hlu, ?_⟩
            have := hv y y1 y2
            rcases hbe with h1 | ⟨h1, _⟩ <;> omega
  exact key _ (x :: t) [] rfl (by simp)
/-- the first hit of a chunk comes before all that are in no earlier chunk -/
theorem AllSwept.first (h : AllSwept m lo hi film cs) {ds es : List (List Nat)} {x : Nat} {t : List Nat} (hc : cs = ds ++ (x :: t) :: es) {i : Nat} (hi' : i < m) (hf : film i = false) (hn : ∀ d ∈ ds, i ∉ d) : i = x ∨ before lo x i := by
  obtain ⟨d, hd, hid⟩ := h.cover i hi' hf
  rw [hc] at hd
  rcases List.mem_append.1 hd with hd | hd
  · exact absurd hid (hn d hd)
  · have hmem : i ∈ ((x :: t) :: es).flatten := List.mem_flatten.2 ⟨d, hd, hid⟩
    have hs := h.sorted
    rw [hc, List.flatten_append, List.pairwise_append] at hs
    have hs2 := hs.2.1
    simp only [List.flatten_cons, List.cons_append] at hs2 hmem
    rcases List.mem_cons.1 hmem with h1 | h1
    · exact .inl h1
    · exact .inr ((List.pairwise_cons.1 hs2).1 i h1)
/-- a chunk's first hit is in no earlier chunk -/
theorem AllSwept.fresh (h : AllSwept m lo hi film cs) {ds es : List (List Nat)} {c : List Nat} (hc : cs = ds ++ c :: es) {x : Nat} (hx : x ∈ c) : ∀ d ∈ ds, x ∉ d := by
  intro d hd hxd
  have hs := h.sorted
  rw [hc, List.flatten_append, List.pairwise_append] at hs
  have := hs.2.2 x (List.mem_flatten.2 ⟨d, hd, hxd⟩) x (List.mem_flatten.2 ⟨c, by simp, hx⟩)
  rcases this with h1 | ⟨_, h1⟩ <;> omega
end
/-- a chunk, its hits by their numbers -/
def byNumber (m : Nat) (c : List Nat) : List Nat := (List.range m).filter (fun i => decide (i ∈ c))
theorem byNumber_congr {m : Nat} {c d : List Nat} (h : ∀ i, i < m → (i ∈ c ↔ i ∈ d)) : byNumber m c = byNumber m d := by
  unfold byNumber
  apply List.filter_congr
  intro i hi
  simp at hi
  simp [h i hi]
theorem asc_unique : ∀ (a b : List Int), a.Pairwise (· < ·) → b.Pairwise (· < ·) → (∀ x, x ∈ a ↔ x ∈ b) → a = b
  | [], [], _, _, _ => rfl
  | [], y :: t, _, _, h => by have := (h y).2 (by simp); simp at this
  | x :: s, [], _, _, h => by have := (h x).1 (by simp); simp at this
  | x :: s, y :: t, ha, hb, h => by
    rw [List.pairwise_cons] at ha hb
    have hxy : x = y := by
      have h1 := (h x).1 (by simp)
      have h2 := (h y).2 (by simp)
      rcases List.mem_cons.1 h1 with e | e
      · exact e
      · rcases List.mem_cons.1 h2 with e2 | e2
        · exact e2.symm
        · have := hb.1 x e; have := ha.1 y e2; omega
    subst hxy
    rw [asc_unique s t ha.2 hb.2 (fun z => ?_)]
    constructor
    · intro hz
      have := (h z).1 (by simp [hz])
      rcases List.mem_cons.1 this with e | e
      · have := ha.1 z hz; omega
      · exact e
    · intro hz
      have := (h z).2 (by simp [hz])
      rcases List.mem_cons.1 this with e | e
      · have := hb.1 z hz; omega
      · exact e
def ofNats (c : List Nat) : List Int := c.map fun (n : Nat) => (n : Int)
theorem byNumber_mem {m : Nat} {c : List Nat} {i : Nat} : i ∈ byNumber m c ↔ i < m ∧ i ∈ c := by simp [byNumber]
theorem byNumber_asc (m : Nat) (c : List Nat) : (ofNats (byNumber m c)).Pairwise (· < ·) := by
  unfold ofNats byNumber
  rw [List.pairwise_map]
  have h : ((List.range m).filter (fun i => decide (i ∈ c))).Pairwise (· < ·) := List.pairwise_lt_range.sublist List.filter_sublist
  exact h.imp (fun h => by omega)
/-- a chunk sorted as numbers is the chunk by number -/
theorem sort_byNumber {m : Nat} {c : List Nat} (hc : ∀ i ∈ c, i < m) (hnd : c.Nodup) : (ofNats c).mergeSort (fun x y => decide (x ≤ y)) = ofNats (byNumber m c) := by
  have hp : ((ofNats c).mergeSort (fun x y => decide (x ≤ y))).Perm (ofNats c) := List.mergeSort_perm _ _
  have hnd2 : (ofNats c).Nodup := by
    unfold ofNats
    rw [List.Nodup, List.pairwise_map]
    exact hnd.imp (fun h => by omega)
  have hs := List.pairwise_mergeSort (le := fun (x y : Int) => decide (x ≤ y)) (fun a b c h1 h2 => by simp at *; omega) (fun a b => by simp; omega) (ofNats c)
  have hnd3 : ((ofNats c).mergeSort (fun x y => decide (x ≤ y))).Nodup := hp.nodup_iff.2 hnd2
  refine asc_unique _ _ ?_ (byNumber_asc m c) (fun x => ?_)
  · have := List.Pairwise.and hs hnd3
    exact this.imp (fun ⟨h1, h2⟩ => by simp at h1; omega)
  · rw [hp.mem_iff]
    simp only [ofNats, List.mem_map, byNumber_mem]
    constructor
    · rintro ⟨i, hi, rfl⟩; exact ⟨i, ⟨hc i hi, hi⟩, rfl⟩
    · rintro ⟨i, ⟨_, hi⟩, rfl⟩; exact ⟨i, hi, rfl⟩
theorem byNumber_len {m : Nat} {c : List Nat} (hc : ∀ i ∈ c, i < m) (hnd : c.Nodup) : (byNumber m c).length = c.length := by
  have h := congrArg List.length (sort_byNumber hc hnd)
  simpa [ofNats] using h.symm
/-- the least of the candidates below i -/
def FirstInv (lo : Nat → Int) (cand : Nat → Bool) (F : Option Nat) (i : Nat) : Prop := match F with
  | none => ∀ j, j < i → cand j = false
  | some f => f < i ∧ cand f = true ∧ ∀ j, j < i → cand j = true → j = f ∨ before lo f j
theorem first_start (lo : Nat → Int) (cand : Nat → Bool) : FirstInv lo cand none 0 := fun j h => by omega
theorem first_skip {lo : Nat → Int} {cand : Nat → Bool} {F : Option Nat} {i : Nat} (h : FirstInv lo cand F i) (hc : cand i = false ∨ ∃ f, F = some f ∧ ¬ lo i < lo f) : FirstInv lo cand F (i + 1) := by
  cases F with
  | none =>
    rcases hc with hc | ⟨f, hf, _⟩
    · intro j hj
      by_cases e : j = i
      · subst e; exact hc
      · exact h j (by omega)
    · cases hf
  | some f =>
    obtain ⟨h1, h2, h3⟩ := h
    refine ⟨by omega, h2, fun j hj hcj => ?_⟩
    by_cases e : j = i
    · subst e
      rcases hc with hc | ⟨f', hf, hl⟩
      · rw [hc] at hcj; cases hcj
      · injection hf with hf
        subst hf
        right
        unfold before; omega
    · exact h3 j (by omega) hcj
theorem first_take {lo : Nat → Int} {cand : Nat → Bool} {F : Option Nat} {i : Nat} (h : FirstInv lo cand F i) (hc : cand i = true) (hl : ∀ f, F = some f → lo i < lo f) : FirstInv lo cand (some i) (i + 1) := by
  refine ⟨by omega, hc, fun j hj hcj => ?_⟩
  by_cases e : j = i
  · exact .inl e
  · right
    cases F with
    | none => rw [h j (by omega)] at hcj; cases hcj
    | some f =>
      obtain ⟨h1, h2, h3⟩ := h
      have := hl f rfl
      rcases h3 j (by omega) hcj with e2 | e2
      · subst e2; left; exact this
      · left
        rcases e2 with e3 | ⟨e3, _⟩ <;> omega
/-- the hits that are in the first q chunks -/
def metIn (cs : List (List Nat)) (q : Nat) (i : Nat) : Bool := decide (i ∈ (cs.take q).flatten)
section
variable {m : Nat} {lo hi : Nat → Int} {film : Nat → Bool} {cs : List (List Nat)}
theorem split_at {q : Nat} (hq : q < cs.length) : ∃ c es, cs = cs.take q ++ c :: es ∧ cs.take (q + 1) = cs.take q ++ [c] := by
  refine ⟨cs[q], cs.drop (q + 1), ?_, ?_⟩
  · rw [← List.drop_eq_getElem_cons hq, List.take_append_drop]
  · rw [List.take_add_one, List.getElem?_eq_getElem hq]; rfl
theorem first_none (h : AllSwept m lo hi film cs) {q : Nat} (hq : q ≤ cs.length) (hF : FirstInv lo (fun i => !metIn cs q i && !film i) none m) : q = cs.length := by
  rcases Nat.lt_or_ge q cs.length with hlt | hge
  · exfalso
    obtain ⟨c, es, hc, _⟩ := split_at hlt
    have hm : c ∈ cs := by rw [hc]; simp
    obtain ⟨x, hx⟩ := List.exists_mem_of_ne_nil c (h.ne c hm)
    obtain ⟨h1, h2⟩ := h.inside c hm x hx
    have hf := h.fresh hc hx
    have := hF x h1
    have hnm : metIn cs q x = false := by
      simp only [metIn, decide_eq_false_iff_not, List.mem_flatten, not_exists, not_and]
      exact fun d hd => hf d hd
    simp [hnm, h2] at this
  · omega
theorem first_some (h : AllSwept m lo hi film cs) {q f : Nat} (hq : q ≤ cs.length) (hF : FirstInv lo (fun i => !metIn cs q i && !film i) (some f) m) : ∃ t es, q < cs.length ∧ cs = cs.take q ++ (f :: t) :: es ∧ cs.take (q + 1) = cs.take q ++ [f :: t] := by
  obtain ⟨h1, h2, h3⟩ := hF
  simp only [Bool.and_eq_true, Bool.not_eq_true', metIn, decide_eq_false_iff_not, List.mem_flatten, not_exists, not_and] at h2
  obtain ⟨d, hd, hfd⟩ := h.cover f h1 h2.2
  have hlt : q < cs.length := by
    rcases Nat.lt_or_ge q cs.length with hlt | hge
    · exact hlt
    · rw [List.take_of_length_le hge] at h2
      exact absurd hfd (h2.1 d hd)
  obtain ⟨c, es, hc, hc2⟩ := split_at hlt
  have hm : c ∈ cs := by rw [hc]; simp
  cases c with
  | nil => exact absurd rfl (h.ne _ hm)
  | cons x t =>
    obtain ⟨x1, x2⟩ := h.inside _ hm x (by simp)
    have hfx := h.fresh hc (x := x) (by simp)
    have hxc := h3 x x1 (by
      simp only [Bool.and_eq_true, Bool.not_eq_true', metIn, decide_eq_false_iff_not, List.mem_flatten, not_exists, not_and]
      exact ⟨fun d hd => hfx d hd, x2⟩)
    have hfirst := h.first hc h1 h2.2 (fun d hd => h2.1 d hd)
    have e : x = f := by
      rcases hxc with e | e
      · exact e
      · rcases hfirst with e2 | e2
        · exact e2.symm
        · unfold before at e e2; omega
    subst e
    exact ⟨t, es, hlt, hc, hc2⟩
end
/-! the passes -/
def cnt (m : Nat) (g : Nat → Bool) : Nat := ((List.range m).filter (fun j => !g j)).length
theorem cnt_le {m : Nat} {g g' : Nat → Bool} (h : ∀ j, j < m → g j = true → g' j = true) : cnt m g' ≤ cnt m g := by
  unfold cnt
  apply List.Sublist.length_le
  have : ((List.range m).filter (fun j => !g' j)) = ((List.range m).filter (fun j => !g j)).filter (fun j => !g' j) := by
    rw [List.filter_filter]
    apply List.filter_congr
    intro j hj
    simp at hj
    have := h j hj
    cases hg : g j <;> cases hg' : g' j <;> simp_all
  rw [this]
  exact List.filter_sublist
theorem cnt_lt {m i : Nat} {g : Nat → Bool} (hi : i < m) (hg : g i = false) : cnt m (fun j => if j = i then true else g j) < cnt m g := by
  unfold cnt
  have e : ((List.range m).filter (fun j => !(if j = i then true else g j))) = ((List.range m).filter (fun j => !g j)).filter (fun j => decide (j ≠ i)) := by
    rw [List.filter_filter]
    apply List.filter_congr
    intro j hj
    by_cases e : j = i <;> simp [e]
  rw [e]
  have hmem : i ∈ (List.range m).filter (fun j => !g j) := by simp [hi, hg]
  rcases Nat.lt_or_ge (((List.range m).filter (fun j => !g j)).filter (fun j => decide (j ≠ i))).length ((List.range m).filter (fun j => !g j)).length with hlt | hge
  · exact hlt
  · exfalso
    have hsub := List.filter_sublist (p := fun j => decide (j ≠ i)) (l := (List.range m).filter (fun j => !g j))
    have heq := hsub.eq_of_length (Nat.le_antisymm hsub.length_le hge)
    rw [← heq] at hmem
    simp at hmem
def setG (g : Nat → Bool) (i : Nat) : Nat → Bool := fun j => if j = i then true else g j
/-- what is known within a pass that began with g, at hit i: the set is g' now -/
structure Pass (m : Nat) (lo hi : Nat → Int) (film : Nat → Bool) (c : List Nat) (g : Nat → Bool) (i : Nat) (g' : Nat → Bool) (ch : Bool) : Prop where
  sub : ∀ j, g j = true → g' j = true
  ins : ∀ j, g' j = true → j ∈ c
  no : ch = false → g' = g ∧ ∀ i', i' < i → film i' = false → g i' = false → ∀ k, k < m → g k = true → ¬ touches lo hi i' k
  yes : ch = true → cnt m g' < cnt m g
theorem pass_start {m : Nat} {lo hi : Nat → Int} {film : Nat → Bool} {c : List Nat} {g : Nat → Bool} (h : ∀ j, g j = true → j ∈ c) : Pass m lo hi film c g 0 g false :=
  ⟨fun _ h => h, h, fun _ => ⟨rfl, fun i' h => by omega⟩, fun h => by cases h⟩
/-- what is known while hit i is held against the hits below k -/
structure Held (m : Nat) (lo hi : Nat → Int) (film : Nat → Bool) (c : List Nat) (g : Nat → Bool) (i k : Nat) (g' : Nat → Bool) (ch : Bool) : Prop where
  pass : Pass m lo hi film c g i g' ch
  not : ch = false → film i = false → g i = false → ∀ k', k' < k → g k' = true → ¬ touches lo hi i k'
theorem held_start {m : Nat} {lo hi : Nat → Int} {film : Nat → Bool} {c : List Nat} {g : Nat → Bool} {i : Nat} {g' : Nat → Bool} {ch : Bool} (h : Pass m lo hi film c g i g' ch) : Held m lo hi film c g i 0 g' ch := ⟨h, fun _ _ _ k' h => by omega⟩
theorem held_skip {m : Nat} {lo hi : Nat → Int} {film : Nat → Bool} {c : List Nat} {g : Nat → Bool} {i k : Nat} {g' : Nat → Bool} {ch : Bool} (h : Held m lo hi film c g i k g' ch) (hn : g' k = false ∨ ¬ touches lo hi i k) : Held m lo hi film c g i (k + 1) g' ch :=
  ⟨h.pass, fun h1 h2 h3 k' hk hg => by
    by_cases e : k' = k
    · subst e
      rcases hn with hn | hn
      · rw [(h.pass.no h1).1, hg] at hn; cases hn
      · exact hn
    · exact h.not h1 h2 h3 k' (by omega) hg⟩
theorem held_set {m : Nat} {lo hi : Nat → Int} {film : Nat → Bool} {c : List Nat} {g : Nat → Bool} {i k k2 : Nat} {g' : Nat → Bool} {ch : Bool} (h : Held m lo hi film c g i k g' ch) (hi' : i < m) (hg : g' i = false) (hc : i ∈ c) : Held m lo hi film c g i k2 (setG g' i) true := by
  refine ⟨⟨fun j hj => ?_, fun j hj => ?_, (fun h => by cases h), fun _ => ?_⟩, (fun h => by cases h)⟩
  · unfold setG; split
    · rfl
    · exact h.pass.sub j hj
  · unfold setG at hj
    by_cases e : j = i
    · subst e; exact hc
    · rw [if_neg e] at hj; exact h.pass.ins j hj
  · have h1 : cnt m (setG g' i) < cnt m g' := cnt_lt hi' hg
    have h2 : cnt m g' ≤ cnt m g := cnt_le (fun j _ hj => h.pass.sub j hj)
    omega
theorem held_end {m : Nat} {lo hi : Nat → Int} {film : Nat → Bool} {c : List Nat} {g : Nat → Bool} {i k : Nat} {g' : Nat → Bool} {ch : Bool} (h : Held m lo hi film c g i k g' ch) (he : m ≤ k ∨ g' i = true ∨ film i = true) : Pass m lo hi film c g (i + 1) g' ch :=
  ⟨h.pass.sub, h.pass.ins, fun h1 => ⟨(h.pass.no h1).1, fun i' hi' hf hg k' hk hgk => by
    by_cases e : i' = i
    · subst e
      rcases he with he | he | he
      · exact h.not h1 hf hg k' (by omega) hgk
      · rw [(h.pass.no h1).1, hg] at he; cases he
      · rw [hf] at he; cases he
    · exact (h.pass.no h1).2 i' (by omega) hf hg k' hk hgk⟩, h.pass.yes⟩
/-- a pass that changed nothing has the whole chunk -/
theorem pass_whole {m : Nat} {lo hi : Nat → Int} {film : Nat → Bool} {cs ds es : List (List Nat)} {x : Nat} {t : List Nat} (h : AllSwept m lo hi film cs) (hv : ∀ i, i < m → film i = false → lo i ≤ hi i) (hc : cs = ds ++ (x :: t) :: es) {g g' : Nat → Bool} (hp : Pass m lo hi film (x :: t) g m g' false) (hx : g x = true) : ∀ j, g' j = true ↔ j ∈ x :: t := by
  obtain ⟨he, hcl⟩ := hp.no rfl
  rw [he] at hp ⊢
  refine fun j => ⟨hp.ins j, ?_⟩
  refine h.reach hv hc (I := fun y => g y = true) hx (fun i k hi' hf hk hgk ht => ?_) j
  cases hgi : g i with
  | true => rfl
  | false => exact absurd ht (hcl i hi' hf hgi k (h.inside _ (by rw [hc]; simp) k hk).1 hgk)
end Go.Proofs.Ytgcepjminlapiaa
