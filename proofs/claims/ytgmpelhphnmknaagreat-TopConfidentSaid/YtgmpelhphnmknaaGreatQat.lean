/- Texts put together: RegFact, ToFlxF. -/
import Derived.Test.YtgmpelhphnmknaaGreatQam
import Derived.Test.YtgmpelhphnmknaaGreatQao
import Derived.Maps.OwnSet
set_option maxRecDepth 100000
set_option maxHeartbeats 8000000
set_option linter.unusedVariables false
set_option linter.unusedSimpArgs false
namespace Go.Proofs.YtgmpelhphnmknaaGreat
open Go Go.RowKit
section
variable {P : Program} {ops : Array Oper} {md : Region.Mode} {Q : Exit → Act → World → Prop}
def dstOf (ops : Array Oper) (i : Nat) : Option Tmp := (ops[i]?).bind (·.dst)
def putAll (ops : Array Oper) (x : Nat → Value) : List Nat → Act → Act
 | [], a => a
 | i :: t, a => putAll ops x t (a.put (dstOf ops i) (x i))
theorem put_put (a : Act) (d : Option Tmp) (u v : Value) : (a.put d u).put d v = a.put d v := by
 cases d with
 | none => rfl
 | some d => simp [Act.put]
theorem put_comm (a : Act) {d e : Option Tmp} (h : d = e → d = none) (u v : Value) : (a.put d u).put e v = (a.put e v).put d u := by
 cases d with
 | none => rfl
 | some d =>
  cases e with
  | none => rfl
  | some e =>
   have hne : d ≠ e := fun k => by subst k; cases h rfl
   simp [Act.put, Array.setIfInBounds_comm _ _ hne]
def Diff (ops : Array Oper) (i j : Nat) : Prop := dstOf ops i = dstOf ops j → dstOf ops i = none
theorem putAll_put {x : Nat → Value} {i : Nat} {v : Value} : ∀ {t : List Nat} {a : Act}, (∀ j ∈ t, Diff ops j i) → (putAll ops x t a).put (dstOf ops i) v = putAll ops x t (a.put (dstOf ops i) v)
 | [], _, _ => rfl
 | j :: t, a, h => by
  rw [putAll, putAll, putAll_put (fun k hk => h k (List.mem_cons_of_mem _ hk)), put_comm _ (h j List.mem_cons_self)]
theorem putAll_congr {x y : Nat → Value} : ∀ {t : List Nat} {a : Act}, (∀ j ∈ t, x j = y j) → putAll ops x t a = putAll ops y t a
 | [], _, _ => rfl
 | j :: t, a, h => by rw [putAll, putAll, h j List.mem_cons_self, putAll_congr (fun k hk => h k (List.mem_cons_of_mem _ hk))]
def upd (x : Nat → Value) (i : Nat) (v : Value) (j : Nat) : Value := if j = i then v else x j
theorem putAll_upd {x : Nat → Value} {i : Nat} {v : Value} : ∀ {t : List Nat} {a : Act}, t.Nodup → t.Pairwise (fun a b => Diff ops a b ∧ Diff ops b a) → i ∈ t → (putAll ops x t a).put (dstOf ops i) v = putAll ops (upd x i v) t a
 | [], _, _, _, h => by cases h
 | j :: t, a, hn, hp, h => by
  rw [List.nodup_cons] at hn
  rw [List.pairwise_cons] at hp
  rw [putAll, putAll]
  by_cases e : i = j
  ·subst e
   rw [putAll_put (fun k hk => (hp.1 k hk).2), put_put]
   rw [show upd x i v i = v from by simp [upd]]
   exact putAll_congr fun k hk => by
    have : k ≠ i := fun e => hn.1 (e ▸ hk)
    simp [upd, this]
  ·have hi : i ∈ t := by
    rcases List.mem_cons.1 h with h | h
    ·exact absurd h e
    ·exact h
   rw [putAll_upd hn.2 hp.2 hi, show upd x i v j = x j from by simp [upd, Ne.symm e]]
theorem put_self (a : Act) (d : Option Tmp) : a.put d ((d.map fun d => a.tmps.getD d undef).getD undef) = a := by
 cases d with
 | none => rfl
 | some d =>
  obtain ⟨t, f⟩ := a
  simp only [Act.put, Option.map_some, Option.getD_some]
  congr 1
  apply Array.ext
  ·simp
  ·intro i h1 h2
   by_cases e : d = i
   ·subst e
    simp at h1
    simp [h1]
   ·rw [Array.getElem_setIfInBounds_ne (by simpa using h1) e]
def oldV (ops : Array Oper) (a : Act) (i : Nat) : Value := ((dstOf ops i).map fun d => a.tmps.getD d undef).getD undef
theorem putAll_old {a : Act} : ∀ {t : List Nat}, putAll ops (oldV ops a) t a = a
 | [] => rfl
 | i :: t => by rw [putAll, oldV, put_self, putAll_old]
def cntN (I : List Nat) (listed : Array Bool) : Nat := (I.filter fun i => !listed.getD i true).length
theorem cnt_set {listed : Array Bool} {i : Nat} (hs : i < listed.size) (hl : listed.getD i true = false) : ∀ {I : List Nat}, I.Nodup → i ∈ I → cntN I listed = cntN I (listed.setIfInBounds i true) + 1
 | [], _, h => by cases h
 | j :: t, hn, h => by
  rw [List.nodup_cons] at hn
  by_cases e : i = j
  ·subst e
   have h1 : (listed.setIfInBounds i true).getD i true = true := by simp [hs]
   have h2 : cntN t (listed.setIfInBounds i true) = cntN t listed := by
    unfold cntN
    congr 1
    exact List.filter_congr fun k hk => by
     have : i ≠ k := fun e => hn.1 (e ▸ hk)
     rw [getD_set_ne true this]
   unfold cntN at *
   rw [List.filter_cons, List.filter_cons, hl, h1]
   simp only [Bool.not_false, Bool.not_true, if_true, List.length_cons]
   simpa using h2.symm
  ·have hi : i ∈ t := by
    rcases List.mem_cons.1 h with h | h
    ·exact absurd h e
    ·exact h
   have ih := cnt_set hs hl hn.2 hi
   unfold cntN at *
   rw [List.filter_cons, List.filter_cons, getD_set_ne true e]
   split
   ·simp only [List.length_cons]; omega
   ·exact ih
theorem cnt_zero {listed : Array Bool} : ∀ {I : List Nat}, cntN I listed = 0 → ∀ i ∈ I, listed.getD i true = true
 | [], _, i, hi => by cases hi
 | j :: t, h, i, hi => by
  unfold cntN at h
  rw [List.filter_cons] at h
  split at h
  ·simp at h
  ·rename_i hj
   rcases List.mem_cons.1 hi with rfl | hi
   ·simpa using hj
   ·exact cnt_zero (I := t) h i hi
def setAll : List Nat → Array Bool → Array Bool
 | [], l => l
 | i :: t, l => setAll t (l.setIfInBounds i true)
theorem setAll_size : ∀ (I : List Nat) (l : Array Bool), (setAll I l).size = l.size
 | [], _ => rfl
 | i :: t, l => by rw [setAll, setAll_size t]; simp
theorem setAll_out : ∀ {I : List Nat} {l : Array Bool} {k : Nat}, k ∉ I → (setAll I l).getD k true = l.getD k true
 | [], _, _, _ => rfl
 | i :: t, l, k, h => by
  rw [List.mem_cons, not_or] at h
  rw [setAll, setAll_out h.2, getD_set_ne true (Ne.symm h.1)]
theorem setAll_in : ∀ {I : List Nat} {l : Array Bool} {k : Nat}, l.getD k true = true ∨ k ∈ I → (setAll I l).getD k true = true
 | [], l, k, h => by rcases h with h | h; exact h; cases h
 | i :: t, l, k, h => by
  rw [setAll]
  refine setAll_in ?_
  by_cases e : i = k
  ·subst e
   left
   by_cases hs : i < l.size
   ·simp [hs]
   ·simp [Array.getElem?_eq_none (show (l.setIfInBounds i true).size ≤ i by simp; omega)]
  ·rw [getD_set_ne true e]
   rcases h with h | h
   ·exact .inl h
   ·rcases List.mem_cons.1 h with h | h
    ·exact absurd h.symm e
    ·exact .inr h
def factB (md : Region.Mode) (ops : Array Oper) (n : Nat) (I : List Nat) (listed : Array Bool) : Bool :=
 headInvB md ops n listed && (List.range n).all (fun i => listed.getD i true || I.contains i) && I.all (fun i => decide (i < n) && !listed.getD i true) && decide I.Nodup && I.all (fun i => I.all fun j => decide (i = j) || !decide (dstOf ops i = dstOf ops j) || decide (dstOf ops i = none)) && (List.range n).all (fun i => ((ops[i]?).map fun o => o.after.all fun e => !Region.binds md e || decide (e.on < i)).getD true)
theorem headH_facts {n : Nat} {L : Array Bool → Act → World → Prop} (S : World → Prop) (R : Nat → World → World → Prop) (G : Nat → (Nat → Value) → World → Prop) {I : List Nat} {listed : Array Bool} {a : Act} {w : World}
  (hB : factB md ops n I listed = true) (hin : ∀ l, HeadInv md ops n l → (∀ i, listed.getD i true = true → l.getD i true = true) → (∃ i, i < n ∧ l.getD i true = false) → ∀ j ∈ Region.ready md ops l, j < n)
  (hG : ∀ i j x y w w', i ≠ j → x j = y j → (∀ k, Region.waitsFor md ops j k = true → x k = y k) → R i w w' → G j x w → G j y w') (hS : S w)
  (hop : ∀ i ∈ I, ∀ (x : Nat → Value) (w : World), S w → (∀ j, (I.contains j && Region.waitsFor md ops i j) = true → G j x w) → wpOp P ops Q i (fun a' w' => ∃ v, a' = (putAll ops x I a).put (dstOf ops i) v ∧ S w' ∧ R i w w' ∧ G i (upd x i v) w') (putAll ops x I a) w)
  (hend : ∀ (x : Nat → Value) (w : World), S w → (∀ i ∈ I, G i x w) → L (setAll I listed) (putAll ops x I a) w) : headH P md ops Q S n L I.length listed a w := by
 unfold factB at hB
 simp only [Bool.and_eq_true, decide_eq_true_eq, List.all_eq_true, List.mem_range, Bool.or_eq_true, Bool.not_eq_true', List.contains_eq_mem, decide_eq_false_iff_not] at hB
 obtain ⟨⟨⟨⟨⟨h1, h2⟩, h3⟩, h4⟩, h5⟩, h6⟩ := hB
 have hinv := headInv_of h1
 have hpw : I.Pairwise (fun a b => Diff ops a b ∧ Diff ops b a) := by
  refine List.Pairwise.imp_of_mem ?_ h4
  intro i j hi hj hne
  refine ⟨fun e => ?_, fun e => ?_⟩
  ·rcases h5 i hi j hj with (h | h) | h
   ·exact absurd h hne
   ·exact absurd e h
   ·exact h
  ·rcases h5 j hj i hi with (h | h) | h
   ·exact absurd h.symm hne
   ·exact absurd e h
   ·exact h
 have key : ∀ (f : Nat) (l : Array Bool) (x : Nat → Value) (w : World), cntN I l = f → HeadInv md ops n l → (∀ k, k ∉ I → l.getD k true = listed.getD k true) → S w → (∀ i ∈ I, l.getD i true = true → G i x w) → headH P md ops Q S n L f l (putAll ops x I a) w := by
  intro f
  induction f with
  | zero =>
   intro l x w hc inv ho hS hg
   have hall := cnt_zero hc
   have : l = setAll I listed := by
    apply Array.ext
    ·rw [setAll_size, inv.size, hinv.size]
    ·intro k hk1 hk2
     have e1 : l.getD k true = l[k] := by simp [hk1]
     have e2 : (setAll I listed).getD k true = (setAll I listed)[k] := by simp [hk2]
     rw [← e1, ← e2]
     by_cases hk : k ∈ I
     ·rw [hall k hk, setAll_in (.inr hk)]
     ·rw [ho k hk, setAll_out hk]
   subst this
   exact hend x w hS fun i hi => hg i hi (hall i hi)
  | succ f ih =>
   intro l x w hc inv ho hS hg
   have hmono : ∀ i, listed.getD i true = true → l.getD i true = true := fun i hi => by
    by_cases hk : i ∈ I
    ·have := (h3 i hk).2; rw [hi] at this; cases this
    ·rw [ho i hk, hi]
   have hlow : ∀ i, i < n → l.getD i true = false → i ∈ I := fun i hi hu => by
    rcases h2 i hi with h | h
    ·rw [hmono i h] at hu; cases hu
    ·exact h
   have hun : ∃ i, i < n ∧ l.getD i true = false := by
    false_or_by_contra
    rename_i hno
    have : cntN I l = 0 := by
     unfold cntN
     rw [List.length_eq_zero_iff, List.filter_eq_nil_iff]
     intro i hi
     have := (h3 i hi).1
     cases e : l.getD i true
     ·exact absurd ⟨i, this, e⟩ hno
     ·simp
    omega
   have hmin : ∃ i, i < n ∧ l.getD i true = false ∧ ∀ j, j < i → l.getD j true = true := by
    obtain ⟨i, hi, hu⟩ := hun
    induction i using Nat.strongRecOn with
    | _ i ihi =>
     by_cases h : ∃ j, j < i ∧ l.getD j true = false
     ·obtain ⟨j, hj, hu2⟩ := h
      exact ihi j hj (by omega) hu2
     ·exact ⟨i, hi, hu, fun j hj => by
       cases e : l.getD j true
       ·exact absurd ⟨j, hj, e⟩ h
       ·rfl⟩
   have hne : Region.ready md ops l ≠ [] := by
    obtain ⟨i, hi, hu, hlt⟩ := hmin
    have hs : i < ops.size := by
     false_or_by_contra
     rw [show l.getD i true = true from by simp [Array.getElem?_eq_none (show l.size ≤ i by have := inv.size; omega)]] at hu
     cases hu
    have : i ∈ Region.ready md ops l := mem_ready.2 ⟨hu, ops[i], by simp [hs], fun e he hb => by
     have h7 := h6 i hi
     rw [Array.getElem?_eq_getElem hs] at h7
     simp only [Option.map_some, Option.getD_some, Array.all_eq_true', Bool.or_eq_true, Bool.not_eq_true', decide_eq_true_eq] at h7
     have h8 : e.on < i := by
      rcases h7 e he with h8 | h8
      ·rw [hb] at h8; cases h8
      ·exact h8
     have h9 := hlt e.on h8
     have h10 : e.on < l.size := by have := inv.size; omega
     simpa [h10] using h9⟩
    intro e
    rw [e] at this
    cases this
   refine ⟨hne, fun i hi => ?_⟩
   have hin1 := hin l inv hmono hun i hi
   have hiI := hlow i hin1 (mem_ready.1 hi).1
   refine ⟨hin1, wpOp_mono ?_ (hop i hiI x w hS fun j hj => ?_)⟩
   ·rintro a' w' ⟨v, rfl, hS', hR, hGi⟩
    refine ⟨hS', ?_⟩
    rw [putAll_upd h4 hpw hiI]
    have hsz : i < l.size := by
     obtain ⟨_, o, ho', _⟩ := mem_ready.1 hi
     have := (Array.getElem?_eq_some_iff.1 ho').1
     have := inv.size
     omega
    refine ih _ _ _ ?_ (inv.set hi hin1) ?_ hS' ?_
    ·have := cnt_set hsz (mem_ready.1 hi).1 h4 hiI
     omega
    ·intro k hk
     have : i ≠ k := fun e => hk (e ▸ hiI)
     rw [getD_set_ne true this]
     exact ho k hk
    ·intro k hk hl
     by_cases e : k = i
     ·subst e
      exact hGi
     ·rw [getD_set_ne true (Ne.symm e)] at hl
      refine hG i k x _ w w' (Ne.symm e) (by simp [upd, e]) (fun q hq => ?_) hR (hg k hk hl)
      have hqi : q ≠ i := fun h0 => by
       subst h0
       obtain ⟨ok, hok, e, he, hb, hon⟩ := Region.waitsFor_spec hq
       have h7 := inv.closed k ok hok (by cases e2 : l.getD k false; (rw [getD_in (by have := (blkL hok); have := inv.size; omega) e2] at hl; cases hl); rfl) e he hb
       rw [hon, getD_both (mem_ready.1 hi).1] at h7
       cases h7
      simp [upd, hqi]
   ·simp only [Bool.and_eq_true, List.contains_eq_mem, decide_eq_true_eq] at hj
    refine hg j hj.1 ?_
    obtain ⟨oj, hoj, e, he, hb, hon⟩ := Region.waitsFor_spec hj.2
    obtain ⟨_, o, ho', hall⟩ := mem_ready.1 hi
    obtain rfl : oj = o := Option.some.inj (hoj.symm.trans ho')
    have h7 := hall e he hb
    rw [hon] at h7
    cases e2 : l.getD j true
    ·rw [getD_both e2] at h7; cases h7
    ·rfl
 have hc : cntN I listed = I.length := by
  unfold cntN
  rw [List.filter_eq_self.2]
  intro i hi
  rw [(h3 i hi).2]
  rfl
 have := key I.length listed (oldV ops a) w hc hinv (fun _ _ => rfl) hS (fun i hi hl => by rw [(h3 i hi).2] at hl; cases hl)
 rwa [putAll_old] at this
def putL (x : Nat → Value) : List (Nat × Option Tmp) → Act → Act
 | [], a => a
 | p :: t, a => putL x t (a.put p.2 (x p.1))
theorem putL_eq {x : Nat → Value} : ∀ {J : List (Nat × Option Tmp)} {a : Act}, J.all (fun p => decide (dstOf ops p.1 = p.2)) = true → putAll ops x (J.map (·.1)) a = putL x J a
 | [], _, _ => rfl
 | p :: t, a, h => by
  simp only [List.all_cons, Bool.and_eq_true, decide_eq_true_eq] at h
  rw [List.map_cons, putAll, putL, h.1, putL_eq h.2]
def lastAt (d : Nat) : List (Nat × Option Tmp) → Option Nat
 | [] => none
 | p :: t => (lastAt d t).or (if p.2 = some d then some p.1 else none)
theorem putL_out {x : Nat → Value} {d : Nat} : ∀ {J : List (Nat × Option Tmp)} {a : Act}, lastAt d J = none → (putL x J a).tmps[d]? = a.tmps[d]?
 | [], _, _ => rfl
 | p :: t, a, h => by
  rw [lastAt, Option.or_eq_none_iff] at h
  rw [putL, putL_out h.1]
  cases e : p.2 with
  | none => rfl
  | some k =>
   have hk : k ≠ d := fun h3 => by
    have := h.2
    rw [e, h3] at this
    simp at this
   simp [Act.put, Array.getElem?_setIfInBounds_ne hk]
theorem putL_at {x : Nat → Value} {d i : Nat} : ∀ {J : List (Nat × Option Tmp)} {a : Act}, lastAt d J = some i → d < a.tmps.size → (putL x J a).tmps[d]? = some (x i)
 | [], _, h, _ => by simp [lastAt] at h
 | p :: t, a, h, hs => by
  rw [lastAt] at h
  rw [putL]
  cases e : lastAt d t with
  | some k =>
   rw [e] at h
   obtain rfl : k = i := by simpa using h
   exact putL_at e (by cases p.2 <;> simpa [Act.put] using hs)
  | none =>
   rw [e] at h
   rw [putL_out e]
   split at h
   ·rename_i h2
    obtain rfl : p.1 = i := by simpa using h
    simp [Act.put, h2, hs]
   ·simp at h
def FactOp (P : Program) (ops : Array Oper) (Q : Exit → Act → World → Prop) (S : World → Prop) (R : Nat → World → World → Prop) (G : Nat → (Nat → Value) → World → Prop) (x : Nat → Value) (A : Act) (w : World) (i : Nat) (d : Option Tmp) : Prop :=
 wpOp P ops Q i (fun a' w' => ∃ v, a' = A.put d v ∧ S w' ∧ R i w w' ∧ G i (upd x i v) w') A w
theorem FactOp.intro {S : World → Prop} {R : Nat → World → World → Prop} {G : Nat → (Nat → Value) → World → Prop} {x : Nat → Value} {A : Act} {w : World} {i : Nat} {d : Option Tmp} {o : Oper} (ho : ops[i]? = some o)
  (h : ∀ K : Act → World → Prop, Shut (∀ v w', S w' → R i w w' → G i (upd x i v) w' → K (A.put d v) w') → if Region.wanted o (yielded ops A.tmps) = true then o.wp P A w K Q else K (A.put o.dst undef) w) : FactOp P ops Q S R G x A w i d :=
 wpOp_step ho fun K hK => h K fun v w' h1 h2 h3 => hK _ _ ⟨v, rfl, h1, h2, h3⟩
theorem headH_factsT {l : List Oper} {n : Nat} (S : World → Prop) (R : Nat → World → World → Prop) (G : Nat → (Nat → Value) → World → Prop) (J : List (Nat × Option Tmp)) {listed : Array Bool} {a : Act} {w : World}
  (hB : (decide (n < l.toArray.size) && sunkB md l.toArray n listed && Region.chainB md l.toArray n && factB md l.toArray n (J.map (·.1)) listed && J.all (fun p => decide (dstOf l.toArray p.1 = p.2))) = true)
  (hG : ∀ i j x y w w', i ≠ j → x j = y j → (∀ k, Region.waitsFor md l.toArray j k = true → x k = y k) → R i w w' → G j x w → G j y w') (hS : S w)
  (hop : ∀ p ∈ J, ∀ (x : Nat → Value) (w : World), S w → (∀ j, ((J.map (·.1)).contains j && Region.waitsFor md l.toArray p.1 j) = true → G j x w) → ∀ A, A = putL x J a → FactOp P l.toArray Q S R G x A w p.1 p.2)
  (hend : ∀ (x : Nat → Value) (w : World), S w → (∀ p ∈ J, G p.1 x w) → tailL P md l Q n (setAll (J.map (·.1)) listed) (putL x J a) w) : headH P md l.toArray Q S n (tailL P md l Q n) J.length listed a w := by
 simp only [Bool.and_eq_true, decide_eq_true_eq] at hB
 obtain ⟨⟨⟨⟨h1, h2⟩, h3⟩, h4⟩, h5⟩ := hB
 have hlen : J.length = (J.map (·.1)).length := by simp
 rw [hlen]
 refine headH_facts S R G h4 (fun l' inv hm hu j hj => ?_) hG hS (fun i hi x w hS hd => ?_) (fun x w hS hg => ?_)
 ·obtain ⟨i, hi, hl⟩ := hu
  rcases Nat.lt_or_ge j n with h | h
  ·exact h
  ·have sk : Sunk md l.toArray n l' := fun k hk hl' => by
    refine sunk_of h2 k hk ?_
    cases e : listed.getD k true
    ·rfl
    ·rw [hm k e] at hl'; cases hl'
   exact absurd hj (late_waits sk h3 h1 inv _ i rfl hi hl j h)
 ·obtain ⟨p, hp, rfl⟩ := List.mem_map.1 hi
  have hd2 := List.all_eq_true.1 h5 p hp
  simp only [decide_eq_true_eq] at hd2
  rw [putL_eq h5, hd2]
  exact hop p hp x w hS hd _ rfl
 ·rw [putL_eq h5]
  exact hend x w hS fun p hp => hg p.1 (List.mem_map.2 ⟨p, hp, rfl⟩)
theorem headH_factsE (S : World → Prop) (R : Nat → World → World → Prop) (G : Nat → (Nat → Value) → World → Prop) (J : List (Nat × Option Tmp)) {listed : Array Bool} {a : Act} {w : World}
  (hB : (factB md ops ops.size (J.map (·.1)) listed && J.all (fun p => decide (dstOf ops p.1 = p.2))) = true)
  (hG : ∀ i j x y w w', i ≠ j → x j = y j → (∀ k, Region.waitsFor md ops j k = true → x k = y k) → R i w w' → G j x w → G j y w') (hS : S w)
  (hop : ∀ p ∈ J, ∀ (x : Nat → Value) (w : World), S w → (∀ j, ((J.map (·.1)).contains j && Region.waitsFor md ops p.1 j) = true → G j x w) → ∀ A, A = putL x J a → FactOp P ops Q S R G x A w p.1 p.2)
  (hend : ∀ (x : Nat → Value) (w : World), S w → (∀ p ∈ J, G p.1 x w) → endL md ops Q (setAll (J.map (·.1)) listed) (putL x J a) w) : headH P md ops Q S ops.size (endL md ops Q) J.length listed a w := by
 simp only [Bool.and_eq_true] at hB
 obtain ⟨h4, h5⟩ := hB
 have hlen : J.length = (J.map (·.1)).length := by simp
 rw [hlen]
 refine headH_facts S R G h4 (fun l' inv hm hu j hj => ?_) hG hS (fun i hi x w hS hd => ?_) (fun x w hS hg => ?_)
 ·obtain ⟨_, o, ho', _⟩ := mem_ready.1 hj
  exact (Array.getElem?_eq_some_iff.1 ho').1
 ·obtain ⟨p, hp, rfl⟩ := List.mem_map.1 hi
  have hd2 := List.all_eq_true.1 h5 p hp
  simp only [decide_eq_true_eq] at hd2
  rw [putL_eq h5, hd2]
  exact hop p hp x w hS hd _ rfl
 ·rw [putL_eq h5]
  exact hend x w hS fun p hp => hg p.1 (List.mem_map.2 ⟨p, hp, rfl⟩)
end
end Go.Proofs.YtgmpelhphnmknaaGreat
namespace Go.Proofs.YtgmpelhphnmknaaGreat
open Go Go.RowKit
def GrdAt (s : SK) (ta : Option Addr) (tn tc gb mb : Nat) (W : World) : Prop := W.heap[gb]? = some (.cells #[.int .i64 s.P, .slice s.ba s.bn s.bc, .int .i64 s.be0, .int .i64 s.be1, .int .i64 s.al0, .int .i64 s.al1, .slice ta tn tc, .map (some mb)] 171)
theorem GrdAt.step {s : SK} {ta : Option Addr} {tn tc gb mb : Nat} {W W' : World} (h : GrdAt s ta tn tc gb mb W) (hb : Below W.heap.size W W') : GrdAt s ta tn tc gb mb W' := (hb.block _ (blkL h)).trans h
def BelowRes (s : SK) (ta : Option Addr) (tn tc : Nat) (w : World) (e : Ending) (w' : World) : Prop :=
 Below w.heap.size w w' ∧ ∃ gb mb, w.heap.size ≤ gb ∧ w.heap.size ≤ mb ∧ e = .returned (.tuple #[.pointer (some ⟨gb, 0, none⟩), .bool true]) ∧ GrdAt s ta tn tc gb mb w' ∧ w'.heap[mb]? = some (.map #[] 0)
theorem al_below (W : World) (o : Obj) : Below W.heap.size W (W.alloc o) := (Below.refl _ _).alloc (Nat.le_refl _) o
theorem keep_at {W W' : World} {b : Nat} {o : Obj} (h : W.heap[b]? = some o) (hb : Below W.heap.size W W') : W'.heap[b]? = some o := (hb.block _ (blkL h)).trans h
def BlG (s : SK) (ta : Option Addr) (tn tc : Nat) (bin op : Int) (w : World) (i : Nat) (v : Value) (W : World) : Prop :=
 match i with
 | 2 => ∃ mb, v = .map (some mb) ∧ w.heap.size ≤ mb ∧ W.heap[mb]? = some (.map #[] 0)
 | 3 => ∃ mb, v = .agg #[.int .i64 s.P, .slice s.ba s.bn s.bc, .int .i64 s.be0, .int .i64 s.be1, .int .i64 s.al0, .int .i64 s.al1, .slice ta tn tc, .map (some mb)] ∧ w.heap.size ≤ mb ∧ W.heap[mb]? = some (.map #[] 0)
 | 4 | 23 => ∃ gb mb, v = .pointer (some ⟨gb, 0, none⟩) ∧ w.heap.size ≤ gb ∧ w.heap.size ≤ mb ∧ GrdAt s ta tn tc gb mb W ∧ W.heap[mb]? = some (.map #[] 0)
 | 8 => v = .slice ta tn tc
 | 12 => v = .int .i64 bin
 | 13 => v = .pointer (some ⟨w.heap.size, 1, none⟩)
 | 14 => v = .slice s.ba s.bn s.bc
 | 15 => v = .int .i64 s.bn
 | 16 => v = .int .i64 (IntKind.i64.wrap ((s.bn : Int) - 1))
 | 20 => v = .int .i64 op
 | _ => v = .bool true
theorem BlG.step {s : SK} {ta : Option Addr} {tn tc : Nat} {bin op : Int} {w : World} : ∀ (j : Nat) (v : Value) (W W' : World), Below W.heap.size W W' → BlG s ta tn tc bin op w j v W → BlG s ta tn tc bin op w j v W' := fun j v W W' hb h => by
 unfold BlG at *
 split at h
 ·obtain ⟨mb, h1, h2, h3⟩ := h; exact ⟨mb, h1, h2, keep_at h3 hb⟩
 ·obtain ⟨mb, h1, h2, h3⟩ := h; exact ⟨mb, h1, h2, keep_at h3 hb⟩
 ·obtain ⟨gb, mb, h1, h2, h3, h4, h5⟩ := h; exact ⟨gb, mb, h1, h2, h3, h4.step hb, keep_at h5 hb⟩
 ·obtain ⟨gb, mb, h1, h2, h3, h4, h5⟩ := h; exact ⟨gb, mb, h1, h2, h3, h4.step hb, keep_at h5 hb⟩
 all_goals exact h
theorem btk_ToFlxF {P : Program} {md : Region.Mode} {Q : Exit → Act → World → Prop} {S : World → Prop} {l : List Oper} {n f : Nat} {listed : Array Bool} {a : Act} {w : World} {v : Value} {oi : Oper} {X : Prop} (i : Nat) (q : X) (hi : l.toArray[i]? = some oi := by rfl) (hB : TkB md l n listed i = true := by kernel_rfl) (hQ : ∀ c a w, Q (.panic c) (a.put oi.dst v) w → Q (.panic c) a w := by exact fun _ _ _ h => h) (hy : YieldsIf P l.toArray S oi v a := by (refine Or.inl ⟨by rfl, ?_⟩; intro w' hSw; (try dsimp only at hSw); have hSw := hSw.2; obtain ⟨k0, k1, k2, k3, k4, k5⟩ := cr6 hSw; simp only [hnq] at k0 k1 k2 k3 k4 k5; clear hSw; (try simp only [hng]); go_simp; (try with_reducible rfl))) (hS : S w := by assumption) (hx : X → headH P md l.toArray Q S n (tailL P md l Q n) f (listed.setIfInBounds i true) (a.put oi.dst v) w := by (intro qq; refine hnm ?_; exact qq)) : headH P md l.toArray Q S n (tailL P md l Q n) (f + 1) listed a w := headH_take hi hB hQ hy hS (hx q)
theorem below_any (s : SK) (ta : Option Addr) (tn tc : Nat) (t : Nat → RW) (bin op : Int) (B : Nat) (w : World) (hBw : B ≤ w.heap.size) (hS : s.mem B w) (hO : s.ok) (hT : RWs B w ta tn t) (htn : tn ≤ 40) (ht : TabOk tn t) (hbin : 0 ≤ bin ∧ bin < s.bn) (hop : 0 ≤ op ∧ op ≤ 1000000) :
  Calls Tryz.prog 36 #[.agg s.cells, .slice ta tn tc, .int .i64 bin, .int .i64 op] w (BelowRes s ta tn tc w) := by
 have HSK := Hd (fun (W : World) (hb : Below w.heap.size w W) => skied_any s B W (Nat.le_trans hBw hb.size) (hS.below (hb.mono hBw)) hO)
 have HRN := Hd (fun (W : World) (hb : Below w.heap.size w W) => ranged_any ta tn tc t B W (Nat.le_trans hBw hb.size) (hT.below (hb.mono hBw)) htn ht)
 have HRES := Hd (fun (gb mb : Nat) (W : World) (h1 : w.heap.size ≤ gb) (h2 : w.heap.size ≤ mb) (hb : Below w.heap.size w W) (hG : GrdAt s ta tn tc gb mb W) (hM : W.heap[mb]? = some (.map #[] 0)) => show BelowRes s ta tn tc w (.returned (.tuple #[.pointer (some ⟨gb, 0, none⟩), .bool true])) W from ⟨hb, gb, mb, h1, h2, rfl, hG, hM⟩)
 have hbn := hO.bins
 have hwr : IntKind.i64.wrap ((s.bn : Int) - 1) = (s.bn : Int) - 1 := IntWalk.i64_in _ (by omega)
 have hw1 : withinB bin 0 (IntKind.i64.wrap ((s.bn : Int) - 1)) = true := by rw [hwr]; exact withinB_true hbin.1 (by omega)
 have hw2 := withinB_true (a := op) (b := 0) (c := 1000000) hop.1 hop.2
 have HW1 := Lib.hid hw1
 have HW2 := Lib.hid hw2
 clear hwr
 clear hS hO hT ht hbin hop hw1 hw2 hBw
 generalize BelowRes s ta tn tc w = RES at *
 obtain ⟨P, ba, bn, bc, be0, be1, al0, al1, la, ln, lc, l⟩ := s
 unfold SK.cells at *
 unfold GrdAt at HRES
 dsimp only at *
 have hmm := @run_makeMap Tryz.prog
 go_enter Tryz.func36, Tryz.ntmps36
 go_upto_region 1 with (fail)
 have HB := Hd (al_below w (.cells #[.int .i64 P, .slice ba bn bc, .int .i64 be0, .int .i64 be1, .int .i64 al0, .int .i64 al1] 30))
 have HX := Hd (heap_alloc_new w (.cells #[.int .i64 P, .slice ba bn bc, .int .i64 be0, .int .i64 be1, .int .i64 al0, .int .i64 al1] 30))
 generalize World.alloc w _ = Wd at *
 refine wp_region_any (by kernel_rfl) ?_
 change wpAny _ _ _ _ _ _ _ (World.drew Wd)
 have HB3 := Hd (HB.out.trans ((Below.refl _ Wd).drew.mono HB.out.size))
 have HX3 := Hd (show (World.drew Wd).heap[w.heap.size]? = _ from HX.out)
 clear HB HX
 have HB := HB3
 have HX := HX3
 clear HB3 HX3
 generalize World.drew Wd = V0 at *
 refine any_of_tail 24 24 (fun w' => Below w.heap.size w w' ∧ w'.heap[w.heap.size]? = some (.cells #[.int .i64 P, .slice ba bn bc, .int .i64 be0, .int .i64 be1, .int .i64 al0, .int .i64 al1] 30)) (by kernel_rfl) ⟨HB.out, HX.out⟩ (fun hS => ?_)
 refine btk_ToFlxF 0 ?_
 refine btk_ToFlxF 1 ?_
 refine btk_ToFlxF 5 ?_
 have hBG := hS
 refine headH_factsT (S := fun w' => Below w.heap.size w w' ∧ w'.heap[w.heap.size]? = some (.cells #[.int .i64 P, .slice ba bn bc, .int .i64 be0, .int .i64 be1, .int .i64 al0, .int .i64 al1] 30)) (R := fun _ w w' => Below w.heap.size w w') (G := fun i x => BlG ⟨P, ba, bn, bc, be0, be1, al0, al1, la, ln, lc, l⟩ ta tn tc bin op w i (x i)) [(2, some 12), (3, some 13), (4, some 14), (6, some 16), (7, some 17), (8, some 18), (9, some 19), (10, some 20), (11, some 21), (12, some 22), (13, some 23), (14, some 24), (15, some 25), (16, some 26), (17, some 27), (18, some 28), (19, some 29), (20, some 30), (21, some 31), (22, some 32), (23, some 8)] (by kernel_rfl) (fun i j x y W W' _ e _ hb h => BlG.step j _ W W' hb (e ▸ h)) hS ?_ ?_
 ·clear hS
  intro p hp x W hS hd A hA
  replace hA := Lib.hid hA
  simp only [List.mem_cons, List.not_mem_nil, or_false] at hp
  rcases hp with rfl | rfl | rfl | rfl | rfl | rfl | rfl | rfl | rfl | rfl | rfl | rfl | rfl | rfl | rfl | rfl | rfl | rfl | rfl | rfl | rfl
  ·refine FactOp.intro rfl (fun K hK => ?_); dsimp only
   go_simp
   have hb := al_below W (.map #[] 0)
   exact hK.out _ _ ⟨hS.1.trans (hb.mono hS.1.size), keep_at hS.2 hb⟩ hb ⟨_, rfl, hS.1.size, heap_alloc_new W _⟩
  ·obtain ⟨mb, e2, h2, h3⟩ : ∃ mb, x 2 = _ ∧ _ := hd 2 (by kernel_rfl)
   have k12 : A.tmps[12]? = some (x 2) := hA.out ▸ putL_at (i := 2) (d := 12) rfl (of_decide_eq_true (by kernel_rfl))
   rw [e2] at k12
   have k10 := (hA.out ▸ (putL_out (d := 10) rfl).trans rfl : A.tmps[10]? = some _)
   have k11 := (hA.out ▸ (putL_out (d := 11) rfl).trans rfl : A.tmps[11]? = some _)
   refine FactOp.intro rfl (fun K hK => ?_); dsimp only
   go_simp
   exact hK.out _ _ hS (Below.refl _ _) ⟨mb, rfl, h2, h3⟩
  ·obtain ⟨mb, e2, h2, h3⟩ : ∃ mb, x 3 = _ ∧ _ := hd 3 (by kernel_rfl)
   have k13 : A.tmps[13]? = some (x 3) := hA.out ▸ putL_at (i := 3) (d := 13) rfl (of_decide_eq_true (by kernel_rfl))
   rw [e2] at k13
   refine FactOp.intro rfl (fun K hK => ?_); dsimp only
   go_simp
   have hb := al_below W (.cells #[.int .i64 P, .slice ba bn bc, .int .i64 be0, .int .i64 be1, .int .i64 al0, .int .i64 al1, .slice ta tn tc, .map (some mb)] 171)
   exact hK.out _ _ ⟨hS.1.trans (hb.mono hS.1.size), keep_at hS.2 hb⟩ hb ⟨_, mb, rfl, hS.1.size, h2, heap_alloc_new W _, keep_at h3 hb⟩
  ·have k15 := (hA.out ▸ (putL_out (d := 15) rfl).trans rfl : A.tmps[15]? = some _)
   refine FactOp.intro rfl (fun K hK => ?_); dsimp only
   go_simp
   refine (HSK.out _ hS.1).mono ?_
   rintro e W' ⟨rfl, hb⟩
   exact hK.out _ _ ⟨hS.1.trans (hb.mono hS.1.size), keep_at hS.2 hb⟩ hb rfl
  ·have k16 : A.tmps[16]? = some (x 6) := hA.out ▸ putL_at (i := 6) (d := 16) rfl (of_decide_eq_true (by kernel_rfl)); rw [(hd 6 (by kernel_rfl) : x 6 = _)] at k16
   refine FactOp.intro rfl (fun K hK => ?_); dsimp only; go_simp; exact hK.out _ _ hS (Below.refl _ _) rfl
  ·have k17 : A.tmps[17]? = some (x 7) := hA.out ▸ putL_at (i := 7) (d := 17) rfl (of_decide_eq_true (by kernel_rfl)); rw [(hd 7 (by kernel_rfl) : x 7 = _)] at k17
   have k1 := (hA.out ▸ (putL_out (d := 1) rfl).trans rfl : A.tmps[1]? = some _)
   refine FactOp.intro rfl (fun K hK => ?_); dsimp only; go_simp; exact hK.out _ _ hS (Below.refl _ _) rfl
  ·have k18 : A.tmps[18]? = some (x 8) := hA.out ▸ putL_at (i := 8) (d := 18) rfl (of_decide_eq_true (by kernel_rfl)); rw [(hd 8 (by kernel_rfl) : x 8 = _)] at k18
   have k17 : A.tmps[17]? = some (x 7) := hA.out ▸ putL_at (i := 7) (d := 17) rfl (of_decide_eq_true (by kernel_rfl)); rw [(hd 7 (by kernel_rfl) : x 7 = _)] at k17
   refine FactOp.intro rfl (fun K hK => ?_); dsimp only
   go_simp
   refine (HRN.out _ hS.1).mono ?_
   rintro e W' ⟨rfl, hb⟩
   exact hK.out _ _ ⟨hS.1.trans (hb.mono hS.1.size), keep_at hS.2 hb⟩ hb rfl
  ·have k17 : A.tmps[17]? = some (x 7) := hA.out ▸ putL_at (i := 7) (d := 17) rfl (of_decide_eq_true (by kernel_rfl)); rw [(hd 7 (by kernel_rfl) : x 7 = _)] at k17
   have k19 : A.tmps[19]? = some (x 9) := hA.out ▸ putL_at (i := 9) (d := 19) rfl (of_decide_eq_true (by kernel_rfl)); rw [(hd 9 (by kernel_rfl) : x 9 = _)] at k19
   refine FactOp.intro rfl (fun K hK => ?_); dsimp only; go_simp; exact hK.out _ _ hS (Below.refl _ _) rfl
  ·have k20 : A.tmps[20]? = some (x 10) := hA.out ▸ putL_at (i := 10) (d := 20) rfl (of_decide_eq_true (by kernel_rfl)); rw [(hd 10 (by kernel_rfl) : x 10 = _)] at k20
   refine FactOp.intro rfl (fun K hK => ?_); dsimp only; go_simp; exact hK.out _ _ hS (Below.refl _ _) rfl
  ·have k21 : A.tmps[21]? = some (x 11) := hA.out ▸ putL_at (i := 11) (d := 21) rfl (of_decide_eq_true (by kernel_rfl)); rw [(hd 11 (by kernel_rfl) : x 11 = _)] at k21
   have k2 := (hA.out ▸ (putL_out (d := 2) rfl).trans rfl : A.tmps[2]? = some _)
   refine FactOp.intro rfl (fun K hK => ?_); dsimp only; go_simp; exact hK.out _ _ hS (Below.refl _ _) rfl
  ·have k21 : A.tmps[21]? = some (x 11) := hA.out ▸ putL_at (i := 11) (d := 21) rfl (of_decide_eq_true (by kernel_rfl)); rw [(hd 11 (by kernel_rfl) : x 11 = _)] at k21
   have k4 := (hA.out ▸ (putL_out (d := 4) rfl).trans rfl : A.tmps[4]? = some _)
   refine FactOp.intro rfl (fun K hK => ?_); dsimp only; go_simp; exact hK.out _ _ hS (Below.refl _ _) rfl
  ·have k23 : A.tmps[23]? = some (x 13) := hA.out ▸ putL_at (i := 13) (d := 23) rfl (of_decide_eq_true (by kernel_rfl)); rw [(hd 13 (by kernel_rfl) : x 13 = _)] at k23
   have k21 : A.tmps[21]? = some (x 11) := hA.out ▸ putL_at (i := 11) (d := 21) rfl (of_decide_eq_true (by kernel_rfl)); rw [(hd 11 (by kernel_rfl) : x 11 = _)] at k21
   have k1 := cell_of_row _ _ 1 _ _ _ hS.2
   simp only [hnq] at k1
   refine FactOp.intro rfl (fun K hK => ?_); dsimp only; go_simp; exact hK.out _ _ hS (Below.refl _ _) rfl
  ·have k24 : A.tmps[24]? = some (x 14) := hA.out ▸ putL_at (i := 14) (d := 24) rfl (of_decide_eq_true (by kernel_rfl)); rw [(hd 14 (by kernel_rfl) : x 14 = _)] at k24
   have k21 : A.tmps[21]? = some (x 11) := hA.out ▸ putL_at (i := 11) (d := 21) rfl (of_decide_eq_true (by kernel_rfl)); rw [(hd 11 (by kernel_rfl) : x 11 = _)] at k21
   refine FactOp.intro rfl (fun K hK => ?_); dsimp only; go_simp; exact hK.out _ _ hS (Below.refl _ _) rfl
  ·have k25 : A.tmps[25]? = some (x 15) := hA.out ▸ putL_at (i := 15) (d := 25) rfl (of_decide_eq_true (by kernel_rfl)); rw [(hd 15 (by kernel_rfl) : x 15 = _)] at k25
   have k21 : A.tmps[21]? = some (x 11) := hA.out ▸ putL_at (i := 11) (d := 21) rfl (of_decide_eq_true (by kernel_rfl)); rw [(hd 11 (by kernel_rfl) : x 11 = _)] at k21
   refine FactOp.intro rfl (fun K hK => ?_); dsimp only; go_simp; exact hK.out _ _ hS (Below.refl _ _) rfl
  ·have k22 : A.tmps[22]? = some (x 12) := hA.out ▸ putL_at (i := 12) (d := 22) rfl (of_decide_eq_true (by kernel_rfl)); rw [(hd 12 (by kernel_rfl) : x 12 = _)] at k22
   have k26 : A.tmps[26]? = some (x 16) := hA.out ▸ putL_at (i := 16) (d := 26) rfl (of_decide_eq_true (by kernel_rfl)); rw [(hd 16 (by kernel_rfl) : x 16 = _)] at k26
   have k21 : A.tmps[21]? = some (x 11) := hA.out ▸ putL_at (i := 11) (d := 21) rfl (of_decide_eq_true (by kernel_rfl)); rw [(hd 11 (by kernel_rfl) : x 11 = _)] at k21
   refine FactOp.intro rfl (fun K hK => ?_); dsimp only
   go_simp
   refine (fwithin_any _ _ _ _).mono ?_
   rintro e W' ⟨rfl, rfl⟩
   rw [HW1.out]
   refine hK.out _ _ hS (Below.refl _ _) rfl
  ·have k21 : A.tmps[21]? = some (x 11) := hA.out ▸ putL_at (i := 11) (d := 21) rfl (of_decide_eq_true (by kernel_rfl)); rw [(hd 11 (by kernel_rfl) : x 11 = _)] at k21
   have k27 : A.tmps[27]? = some (x 17) := hA.out ▸ putL_at (i := 17) (d := 27) rfl (of_decide_eq_true (by kernel_rfl)); rw [(hd 17 (by kernel_rfl) : x 17 = _)] at k27
   refine FactOp.intro rfl (fun K hK => ?_); dsimp only; go_simp; exact hK.out _ _ hS (Below.refl _ _) rfl
  ·have k28 : A.tmps[28]? = some (x 18) := hA.out ▸ putL_at (i := 18) (d := 28) rfl (of_decide_eq_true (by kernel_rfl)); rw [(hd 18 (by kernel_rfl) : x 18 = _)] at k28
   refine FactOp.intro rfl (fun K hK => ?_); dsimp only; go_simp; exact hK.out _ _ hS (Below.refl _ _) rfl
  ·have k29 : A.tmps[29]? = some (x 19) := hA.out ▸ putL_at (i := 19) (d := 29) rfl (of_decide_eq_true (by kernel_rfl)); rw [(hd 19 (by kernel_rfl) : x 19 = _)] at k29
   have k3 := (hA.out ▸ (putL_out (d := 3) rfl).trans rfl : A.tmps[3]? = some _)
   refine FactOp.intro rfl (fun K hK => ?_); dsimp only; go_simp; exact hK.out _ _ hS (Below.refl _ _) rfl
  ·have k29 : A.tmps[29]? = some (x 19) := hA.out ▸ putL_at (i := 19) (d := 29) rfl (of_decide_eq_true (by kernel_rfl)); rw [(hd 19 (by kernel_rfl) : x 19 = _)] at k29
   have k30 : A.tmps[30]? = some (x 20) := hA.out ▸ putL_at (i := 20) (d := 30) rfl (of_decide_eq_true (by kernel_rfl)); rw [(hd 20 (by kernel_rfl) : x 20 = _)] at k30
   refine FactOp.intro rfl (fun K hK => ?_); dsimp only
   go_simp
   refine (fwithin_any _ _ _ _).mono ?_
   rintro e W' ⟨rfl, rfl⟩
   rw [HW2.out]
   refine hK.out _ _ hS (Below.refl _ _) rfl
  ·have k29 : A.tmps[29]? = some (x 19) := hA.out ▸ putL_at (i := 19) (d := 29) rfl (of_decide_eq_true (by kernel_rfl)); rw [(hd 19 (by kernel_rfl) : x 19 = _)] at k29
   have k31 : A.tmps[31]? = some (x 21) := hA.out ▸ putL_at (i := 21) (d := 31) rfl (of_decide_eq_true (by kernel_rfl)); rw [(hd 21 (by kernel_rfl) : x 21 = _)] at k31
   refine FactOp.intro rfl (fun K hK => ?_); dsimp only; go_simp; exact hK.out _ _ hS (Below.refl _ _) rfl
  ·obtain ⟨gb, mb, e2, h2⟩ : ∃ gb mb, x 4 = _ ∧ _ := hd 4 (by kernel_rfl)
   have k14 : A.tmps[14]? = some (x 4) := hA.out ▸ putL_at (i := 4) (d := 14) rfl (of_decide_eq_true (by kernel_rfl))
   rw [e2] at k14
   refine FactOp.intro rfl (fun K hK => ?_); dsimp only
   go_simp
   exact hK.out _ _ hS (Below.refl _ _) ⟨gb, mb, rfl, h2⟩
 ·clear hS
  intro x W hS hg
  obtain ⟨gb, mb, e2, h2, h3, h4, h5⟩ : ∃ gb mb, x 23 = _ ∧ _ := hg (23, some 8) (by simp)
  have e3 : x 22 = .bool true := hg (22, some 32) (by simp)
  simp only [putL, Act.put, setAll, List.setIfInBounds_toArray, List.set_cons_zero, List.set_cons_succ, e2, e3]
  refine ⟨by kernel_rfl, ?_⟩
  go_wp2
  exact HRES.out gb mb _ h2 h3 hS.1 h4 h5
end Go.Proofs.YtgmpelhphnmknaaGreat
