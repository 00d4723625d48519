/- Texts put together: TogetherLaw, TgA, TgB, TgC, TgD, TgF. -/
import Derived.Test.YtgcepjminlapiaaEventsLaw
import Derived.Test.YtgcepjminlapiaaPlaneT
import Derived.Test.YtgcepjminlapiaaPlaneQ
import Derived.Test.YtgcepjminlapiaaHitData
import Derived.Test.YtgcepjminlapiaaHitOwn
import Derived.Test.YtgcepjminlapiaaEvC
import Derived.Test.YtgcepjminlapiaaOpenX
import Derived.Test.YtgcepjminlapiaaRegs
namespace Go.Proofs.Ytgcepjminlapiaa
set_option linter.unusedVariables false
set_option linter.unusedSimpArgs false
/-- what a plane reads for a true time -/
def readT (clo chi jit t rc rj : Int) : Int := t + clo + (chi - clo) * rc / 100 - jit + 2 * jit * rj / 100
theorem part_in {x r : Int} (hx : 0 ≤ x) (h0 : 0 ≤ r) (h1 : r ≤ 100) : 0 ≤ x * r / 100 ∧ x * r / 100 ≤ x := by
  have a : 0 ≤ x * r := Int.mul_nonneg hx h0
  have b : x * r ≤ x * 100 := Int.mul_le_mul_of_nonneg_left h1 hx
  omega
theorem read_in {clo chi jit t rc rj : Int} (hc : clo ≤ chi) (hj : 0 ≤ jit) (c0 : 0 ≤ rc) (c1 : rc ≤ 100) (j0 : 0 ≤ rj) (j1 : rj ≤ 100) : readT clo chi jit t rc rj - chi - jit ≤ t ∧ t ≤ readT clo chi jit t rc rj - clo + jit := by
  obtain ⟨a1, a2⟩ := part_in (x := chi - clo) (by omega) c0 c1
  obtain ⟨b1, b2⟩ := part_in (x := 2 * jit) (by omega) j0 j1
  unfold readT
  omega
/-- two hits whose times hold one number lie in one chunk -/
theorem AllSwept.together {m : Nat} {lo hi : Nat → Int} {film : Nat → Bool} {cs ds es : List (List Nat)} {c : List Nat} (h : AllSwept m lo hi film cs) (hc : cs = ds ++ c :: es) {i k : Nat} {t : Int} (hi' : i < m) (hf : film i = false) (hk : k ∈ c) (h1 : lo i ≤ t) (h2 : t ≤ hi i) (h3 : lo k ≤ t) (h4 : t ≤ hi k) : i ∈ c :=
  h.closed hc hi' hf hk ⟨by omega, by omega⟩
end Go.Proofs.Ytgcepjminlapiaa
namespace Go.Proofs.Ytgcepjminlapiaa
open Go.RowKit
set_option linter.unusedVariables false
set_option linter.unusedSimpArgs false
set_option maxRecDepth 100000 in
set_option maxHeartbeats 1000000 in
theorem reading_any (p : PR) (t rc rj : Int) (w : World) (hS : Shaped p) (ht : -1000000000 ≤ t ∧ t ≤ 1000000000) (hc : 0 ≤ rc ∧ rc ≤ 100) (hj : 0 ≤ rj ∧ rj ≤ 100) :
    Calls Try.prog 47 #[p.plane, .int .i64 t, .agg #[.int .i64 rc, .int .i64 rj]] w fun e w' => e = .returned (.int .i64 (readT p.clo p.chi p.jitter t rc rj)) ∧ Below w.heap.size w w' := by
  obtain ⟨j1, j2⟩ := hS.jitter
  obtain ⟨y1, y2, y3⟩ := hS.clock
  obtain ⟨t1, t2⟩ := ht
  obtain ⟨c1, c2⟩ := hc
  obtain ⟨k1, k2⟩ := hj
  clear hS
  obtain ⟨kind, view, z, first, pitch, strips, spill, olo, ohi, clo, chi, jitter, least, da, dn, dc, ea, en, ec, ds, es⟩ := p
  dsimp only at *
  have m1 : 0 ≤ (chi - clo) * rc ∧ (chi - clo) * rc ≤ 200000000000 := by
    refine ⟨Int.mul_nonneg (by omega) c1, ?_⟩
    exact Int.mul_le_mul (a := chi - clo) (b := rc) (c := 2000000000) (d := 100) (by omega) c2 c1 (by omega)
  have m2 : 0 ≤ 2 * jitter * rj ∧ 2 * jitter * rj ≤ 200000000 := by
    refine ⟨Int.mul_nonneg (by omega) k1, ?_⟩
    exact Int.mul_le_mul (a := 2 * jitter) (b := rj) (c := 2000000) (d := 100) (by omega) k2 k1 (by omega)
  obtain ⟨m11, m12⟩ := m1
  obtain ⟨m21, m22⟩ := m2
  have HR := Lib.hid (show readT clo chi jitter t rc rj = t + clo + (chi - clo) * rc / 100 - jitter + 2 * jitter * rj / 100 from rfl)
  generalize hA : (chi - clo) * rc = A at *
  generalize hB : 2 * jitter * rj = C at *
  go_enter Try.func47, Try.ntmps47
  go_wp2
  go_ret
  exact ⟨ret_int HR.out.symm, ((Below.refl _ _).alloc (Nat.le_refl _) _).alloc (by simp) _⟩
end Go.Proofs.Ytgcepjminlapiaa
namespace Go.Proofs.Ytgcepjminlapiaa
open Go.RowKit
set_option linter.unusedVariables false
set_option linter.unusedSimpArgs false
/-- the hit that a muon leaves: what the clock reads -/
def tgT (p : PR) (t : Int) (r : SV) : Int := if p.kind = 3 then 0 else readT p.clo p.chi p.jitter t r.lo r.hi
def tgH (ps : Nat → PR) (t : Int) (h : HV) (r : SV) : HV := { h with time := tgT (ps h.plane.toNat) t r }
def tgPre (n : Nat) (h : HV) (r : SV) : Bool := withinB h.plane 0 ((n : Int) - 1) && (withinB r.lo 0 100 && withinB r.hi 0 100)
def tgF (p : PR) (t : Int) : Bool := !(p.kind == 3) || withinB t p.clo p.chi
def tgB (n : Nat) (ps : Nat → PR) (t : Int) (h : HV) (r : SV) : Bool := tgPre n h r && (tgF (ps h.plane.toNat) t && ofB n ps (tgH ps t h r))
theorem tgH_plane {ps : Nat → PR} {t : Int} {h : HV} {r : SV} : (tgH ps t h r).plane = h.plane := rfl
theorem tgB_of {n : Nat} {ps : Nat → PR} {t : Int} {h : HV} {r : SV} (hB : tgB n ps t h r = true) : ofB n ps (tgH ps t h r) = true := by
  simp only [tgB, Bool.and_eq_true] at hB
  exact hB.2.2
theorem tgB_time {n : Nat} {ps : Nat → PR} {t : Int} {h : HV} {r : SV} (hC : checkB n ps = true) (hB : tgB n ps t h r = true) : timeLo (ps h.plane.toNat) (tgH ps t h r) ≤ t ∧ t ≤ timeHi (ps h.plane.toNat) (tgH ps t h r) := by
  simp only [tgB, tgPre, tgF, Bool.and_eq_true, Bool.or_eq_true, withinB_iff, Bool.not_eq_true', beq_eq_false_iff_ne] at hB
  obtain ⟨⟨⟨p1, p2⟩, ⟨c1, c2⟩, ⟨j1, j2⟩⟩, hf, _⟩ := hB
  have hS := properB_shaped (checkB_plane hC (k := h.plane.toNat) (by omega))
  have hcl := hS.clock
  have hji := hS.jitter
  generalize hp : ps h.plane.toNat = p at *
  unfold timeLo timeHi
  by_cases hk : p.kind = 3
  · rw [if_pos hk, if_pos hk]
    rcases hf with h | h
    · exact absurd hk h
    · exact h
  · rw [if_neg hk, if_neg hk]
    have e : (tgH ps t h r).time = readT p.clo p.chi p.jitter t r.lo r.hi := by
      show tgT (ps h.plane.toNat) t r = _
      rw [hp, tgT, if_neg hk]
    rw [e]
    exact read_in hcl.2.1 hji.1 c1 c2 j1 j2
theorem cL_le {tl : Nat → Int} {t : Int} : ∀ (i : Nat), (∀ j, j ≤ i → tl j ≤ t) → cL tl i ≤ t
  | 0, h => h 0 (by omega)
  | i + 1, h => by
    have h1 := cL_le i (fun j hj => h j (by omega))
    have h2 := h (i + 1) (by omega)
    rw [cL]
    split <;> omega
theorem le_cH {th : Nat → Int} {t : Int} : ∀ (i : Nat), (∀ j, j ≤ i → t ≤ th j) → t ≤ cH th i
  | 0, h => h 0 (by omega)
  | i + 1, h => by
    have h1 := le_cH i (fun j hj => h j (by omega))
    have h2 := h (i + 1) (by omega)
    rw [cH]
    split <;> omega
/-- the first i hits of a muon -/
def tgL (ps : Nat → PR) (t : Int) (hs : Nat → HV) (rs : Nat → SV) : Nat → List HV
  | 0 => []
  | i + 1 => tgL ps t hs rs i ++ [tgH ps t (hs i) (rs i)]
theorem tgL_len {ps : Nat → PR} {t : Int} {hs : Nat → HV} {rs : Nat → SV} : ∀ (i : Nat), (tgL ps t hs rs i).length = i
  | 0 => rfl
  | i + 1 => by rw [tgL, List.length_append, tgL_len i]; rfl
theorem tgL_get {ps : Nat → PR} {t : Int} {hs : Nat → HV} {rs : Nat → SV} {z : HV} : ∀ (i j : Nat), j < i → (tgL ps t hs rs i).getD j z = tgH ps t (hs j) (rs j)
  | 0, j, h => by omega
  | i + 1, j, h => by
    rw [tgL, List.getD_eq_getElem?_getD]
    by_cases e : j < i
    · rw [List.getElem?_append_left (by rw [tgL_len]; exact e), ← List.getD_eq_getElem?_getD]
      exact tgL_get i j e
    · have : j = i := by omega
      subst this
      rw [List.getElem?_append_right (by rw [tgL_len]; omega), tgL_len]
      simp
end Go.Proofs.Ytgcepjminlapiaa
namespace Go.Proofs.Ytgcepjminlapiaa
set_option linter.unusedVariables false
set_option linter.unusedSimpArgs false
/-- the event of a hit among the first q chunks, -1 if it is in none -/
def evq (cs : List (List Nat)) : Nat → Nat → Int
  | 0, _ => -1
  | q + 1, j => if j ∈ cs.getD q [] then (q : Int) else evq cs q j
/-- the same while chunk q is read: its first k hits by number -/
def evk (N : Nat) (cs : List (List Nat)) (q k j : Nat) : Int := if j ∈ (byNumber N (cs.getD q [])).take k then (q : Int) else evq cs q j
theorem evq_lt (cs : List (List Nat)) : ∀ q j, evq cs q j < (q : Int) ∧ -1 ≤ evq cs q j
  | 0, j => by unfold evq; omega
  | q + 1, j => by
    have := evq_lt cs q j
    unfold evq
    split <;> omega
theorem evq_neg {cs : List (List Nat)} : ∀ q j, evq cs q j < 0 ↔ ∀ i, i < q → j ∉ cs.getD i []
  | 0, j => by unfold evq; simp
  | q + 1, j => by
    have ih := evq_neg (cs := cs) q j
    unfold evq
    split
    · rename_i h
      constructor
      · intro h2; omega
      · intro h2; exact absurd h (h2 q (by omega))
    · rename_i h
      rw [ih]
      constructor
      · intro h2 i hi
        by_cases e : i = q
        · subst e; exact h
        · exact h2 i (by omega)
      · intro h2 i hi; exact h2 i (by omega)
theorem evq_of {cs : List (List Nat)} : ∀ q j, 0 ≤ evq cs q j → ∃ i, i < q ∧ evq cs q j = (i : Int) ∧ j ∈ cs.getD i []
  | 0, j => by intro h; unfold evq at h; omega
  | q + 1, j => by
    intro h
    unfold evq at h ⊢
    split at h
    · rename_i hm; exact ⟨q, by omega, by rw [if_pos hm], hm⟩
    · rename_i hm
      obtain ⟨i, hi, h1, h2⟩ := evq_of q j h
      exact ⟨i, by omega, by rw [if_neg hm]; exact h1, h2⟩
theorem evk_start {N : Nat} {cs : List (List Nat)} {q j : Nat} : evk N cs q 0 j = evq cs q j := by unfold evk; simp
theorem evk_end {N : Nat} {cs : List (List Nat)} {q k j : Nat} (hk : (byNumber N (cs.getD q [])).length ≤ k) (hj : j < N) : evk N cs q k j = evq cs (q + 1) j := by
  unfold evk
  rw [List.take_of_length_le hk]
  show _ = (if j ∈ cs.getD q [] then (q : Int) else evq cs q j)
  by_cases h : j ∈ cs.getD q []
  · rw [if_pos h, if_pos (byNumber_mem.2 ⟨hj, h⟩)]
  · rw [if_neg h, if_neg (fun h2 => h (byNumber_mem.1 h2).2)]
theorem byNumber_nodup (N : Nat) (c : List Nat) : (byNumber N c).Nodup := by
  unfold byNumber
  exact List.nodup_range.sublist List.filter_sublist
section
variable {N : Nat} {lo hi : Nat → Int} {film : Nat → Bool} {cs : List (List Nat)}
theorem chunk_at {cs : List (List Nat)} {q : Nat} (hq : q < cs.length) : cs = cs.take q ++ cs.getD q [] :: cs.drop (q + 1) := by
  have h : cs.getD q [] = cs[q] := by rw [List.getD_eq_getElem?_getD, List.getElem?_eq_getElem hq]; rfl
  rw [h, List.getElem_cons_drop, List.take_append_drop]
theorem getD_mem_take {cs : List (List Nat)} {i q : Nat} (hi : i < q) (hq : q ≤ cs.length) : cs.getD i [] ∈ cs.take q := by
  rw [List.mem_take_iff_getElem]
  refine ⟨i, by omega, ?_⟩
  rw [List.getD_eq_getElem?_getD, List.getElem?_eq_getElem (by omega)]; rfl
/-- what is read out of chunk q: a number of a hit, not met yet -/
theorem AllSwept.read (h : AllSwept N lo hi film cs) {q k : Nat} (hq : q < cs.length) (hk : k < (byNumber N (cs.getD q [])).length) :
    (byNumber N (cs.getD q [])).getD k 0 < N ∧ evk N cs q k ((byNumber N (cs.getD q [])).getD k 0) = -1 ∧ ∀ j, evk N cs q (k + 1) j = if j = (byNumber N (cs.getD q [])).getD k 0 then (q : Int) else evk N cs q k j := by
  have hx : (byNumber N (cs.getD q [])).getD k 0 = (byNumber N (cs.getD q []))[k] := by rw [List.getD_eq_getElem?_getD, List.getElem?_eq_getElem hk]; rfl
  have hmem := List.getElem_mem hk
  rw [← hx] at hmem
  have hts : (byNumber N (cs.getD q [])).take (k + 1) = (byNumber N (cs.getD q [])).take k ++ [(byNumber N (cs.getD q [])).getD k 0] := by
    rw [List.take_succ_eq_append_getElem hk, hx]
  have hnd := byNumber_nodup N (cs.getD q [])
  have hnt : (byNumber N (cs.getD q [])).getD k 0 ∉ (byNumber N (cs.getD q [])).take k := by
    have h2 : ((byNumber N (cs.getD q [])).take (k + 1)).Nodup := hnd.sublist (List.take_sublist _ _)
    rw [hts, List.nodup_append] at h2
    intro h3
    exact h2.2.2 _ h3 _ (by simp) rfl
  generalize hX : (byNumber N (cs.getD q [])).getD k 0 = x at *
  obtain ⟨h1, h2⟩ := byNumber_mem.1 hmem
  refine ⟨h1, ?_, fun j => ?_⟩
  · unfold evk
    rw [if_neg hnt]
    have := (evq_neg (cs := cs) q x).2 (fun i hi' => h.fresh (chunk_at hq) h2 _ (getD_mem_take hi' (by omega)))
    have := (evq_lt cs q x).2
    omega
  · unfold evk
    rw [hts]
    by_cases e : j = x
    · rw [if_pos e, if_pos (by rw [e]; simp)]
    · rw [if_neg e]
      by_cases h3 : j ∈ (byNumber N (cs.getD q [])).take k
      · rw [if_pos h3, if_pos (List.mem_append_left _ h3)]
      · rw [if_neg h3, if_neg (fun h4 => (List.mem_append.1 h4).elim h3 (fun h5 => e (List.mem_singleton.1 h5)))]
theorem getD_mem {cs : List (List Nat)} {i : Nat} (hi : i < cs.length) : cs.getD i [] ∈ cs := by
  rw [List.getD_eq_getElem?_getD, List.getElem?_eq_getElem hi]; exact List.getElem_mem hi
theorem mem_getD {cs : List (List Nat)} {c : List Nat} (hc : c ∈ cs) : ∃ i, i < cs.length ∧ cs.getD i [] = c := by
  obtain ⟨i, hi, h⟩ := List.getElem_of_mem hc
  exact ⟨i, hi, by rw [List.getD_eq_getElem?_getD, List.getElem?_eq_getElem hi]; exact h⟩
/-- films, and they alone, are in no event -/
theorem AllSwept.film_none (h : AllSwept N lo hi film cs) {j : Nat} (hj : j < N) : film j = decide (evq cs cs.length j < 0) := by
  rw [Bool.eq_iff_iff, decide_eq_true_iff, evq_neg]
  constructor
  · intro hf i hi' hm
    have := (h.inside _ (getD_mem hi') j hm).2
    rw [hf] at this; cases this
  · intro h2
    cases hf : film j
    · obtain ⟨c, hc, hjc⟩ := h.cover j hj hf
      obtain ⟨i, hi', rfl⟩ := mem_getD hc
      exact absurd hjc (h2 i hi')
    · rfl
/-- hits whose times hold one number are in one event -/
theorem AllSwept.same_event (h : AllSwept N lo hi film cs) {i j : Nat} {t : Int} (hi' : i < N) (hj : j < N) (fi : film i = false) (fj : film j = false) (h1 : lo i ≤ t) (h2 : t ≤ hi i) (h3 : lo j ≤ t) (h4 : t ≤ hi j) : evq cs cs.length i = evq cs cs.length j := by
  have ei : 0 ≤ evq cs cs.length i := by
    have := h.film_none hi'
    rw [fi] at this
    have := of_decide_eq_false this.symm
    omega
  have ej : 0 ≤ evq cs cs.length j := by
    have := h.film_none hj
    rw [fj] at this
    have := of_decide_eq_false this.symm
    omega
  obtain ⟨a, ha, e1, m1⟩ := evq_of _ _ ei
  obtain ⟨b, hb, e2, m2⟩ := evq_of _ _ ej
  have m3 : j ∈ cs.getD a [] := h.together (chunk_at ha) hj fj m1 h3 h4 h1 h2
  rw [e1, e2]
  by_cases e : a = b
  · rw [e]
  · by_cases hl : a < b
    · exact absurd m3 (h.fresh (chunk_at hb) m2 _ (getD_mem_take hl (by omega)))
    · exact absurd m2 (h.fresh (chunk_at ha) m3 _ (getD_mem_take (by omega) (by omega)))
end
end Go.Proofs.Ytgcepjminlapiaa
namespace Go.Proofs.Ytgcepjminlapiaa
open Go.RowKit
set_option linter.unusedVariables false
set_option linter.unusedSimpArgs false
theorem run_append_nilsrc {P : Program} {w : World} (base : Nat) (t ty e : TypeId) (i : TypeInfo) (size : Nat) (ht : P.underlying t = some (.slice e)) (hi : P.info? e = some i)
    (v : Value) (n : Nat) (xs : List Value) (hown : w.ownsRow base e size v n xs) (c : Nat) : (Builtin.append_ #[t, t] ty #[v, .slice none 0 c]).run P w = .ok v w := by
  rcases hown.2 with ⟨rfl, rfl⟩ | ⟨g, cap, cur, rfl, _, _, hnc, _⟩
  · simp [Builtin.append_, run_underlying ht, sizeOf, typeInfo, hi, Builtin.lenOf, Builtin.firstCells]
  · simp [Builtin.append_, run_underlying ht, sizeOf, typeInfo, hi, Builtin.lenOf, Builtin.firstCells, hnc, storeCells]
theorem wp_append_src {P : Program} {w : World} {o : Oper} {a : Act} {K : Act → World → Prop} {Q : Exit → Act → World → Prop} (s x : Operand) (t : TypeId)
    (ho : o.op = .call { callee := .builtin .append, args := #[s, x], argTypes := #[t, t] })
    (base : Nat) (e : TypeId) (i : TypeInfo) (z : Value) (size bytes : Nat) (ht : P.underlying t = some (.slice e)) (hi : P.info? e = some i) (hz : i.zero = some z)
    (hsize : i.size = size) (hby : i.bytes = bytes) (hzs : z.cells.size = size) (hsz : 0 < size)
    (v : Value) (n : Nat) (xs : List Value) (hs : a.eval s = v) (hown : w.ownsRow base e size v n xs)
    (oa : Option Addr) (m c : Nat) (news : List Value) (hx : a.eval x = .slice oa m c) (hl : news.length = m * size) (hsrc : m = 0 ∨ ∃ ad, oa = some ad ∧ ∀ j u, news[j]? = some u → w.cell? (ad.add j) = some u) (h1 : ∀ u ∈ news, u.oneCell' = true)
    (h63 : n + m ≤ maxLen) (hbytes : (n + m) * bytes ≤ 140737488355328) (hbase : base ≤ w.heap.size)
    (h : ∀ v' w', w'.ownsRow base e size v' (n + m) (xs ++ news) → w.grownBy w' v.ownBlock → K (a.put o.dst v') w') : o.wp P a w K Q := by
  cases oa with
  | none =>
    rcases hsrc with h0 | ⟨ad, h0, _⟩
    · subst h0
      have hn : news = [] := List.eq_nil_of_length_eq_zero (by omega)
      subst hn
      have hr := run_append_nilsrc (P := P) (w := w) base t o.type e i size ht hi v n xs hown c
      unfold Oper.wp execOp
      simp only [ho, resolve, invoke, builtin, Sem.run_bind, Sem.run_pure, Result.andThen_ok, List.map_toArray, List.map_cons, List.map_nil, hs, hx, hr]
      exact h v w (by simpa using hown) ⟨rfl, rfl, rfl, Nat.le_refl _, fun _ _ _ => rfl⟩
    · cases h0
  | some ad =>
    refine wp_append_own w s x t ho base e i z size bytes ht hi hz hsize hby hzs hsz v n xs hs hown ad m c news hx hl ?_ h1 h63 hbytes hbase (fun v' w' h2 h3 _ => h v' w' h2 h3)
    rcases hsrc with h0 | ⟨ad', h0, hc⟩
    · subst h0
      have hn : news = [] := List.eq_nil_of_length_eq_zero (by omega)
      subst hn
      intro j u hu
      simp at hu
    · injection h0 with h0
      subst h0
      exact hc
theorem step_append_src {P : Program} {w : World} {ops : Array Oper} {o : Oper} {a : Act} {K : Act → World → Prop} {Q : Exit → Act → World → Prop} {E : Prop} (hgd : o.guard = none) (s x : Operand) (t : TypeId)
    (ho : o.op = .call { callee := .builtin .append, args := #[s, x], argTypes := #[t, t] })
    (base : Nat) (e : TypeId) (i : TypeInfo) (z : Value) (size bytes : Nat) (ht : P.underlying t = some (.slice e)) (hi : P.info? e = some i) (hz : i.zero = some z)
    (hsize : i.size = size) (hby : i.bytes = bytes) (hzs : z.cells.size = size) (hsz : 0 < size)
    (v : Value) (n : Nat) (xs : List Value) (hs : a.eval s = v) (hown : w.ownsRow base e size v n xs)
    (oa : Option Addr) (m c : Nat) (news : List Value) (hx : a.eval x = .slice oa m c) (hl : news.length = m * size) (hsrc : m = 0 ∨ ∃ ad, oa = some ad ∧ ∀ j u, news[j]? = some u → w.cell? (ad.add j) = some u) (h1 : ∀ u ∈ news, u.oneCell' = true)
    (h63 : n + m ≤ maxLen) (hbytes : (n + m) * bytes ≤ 140737488355328) (hbase : base ≤ w.heap.size)
    (h : ∀ v' w', w'.ownsRow base e size v' (n + m) (xs ++ news) → w.grownBy w' v.ownBlock → K (a.put o.dst v') w') : if Region.wanted o (yielded ops a.tmps) = true then Oper.wp P o a w K Q else E := by
  have hw : Region.wanted o (yielded ops a.tmps) = true := by simp [Region.wanted, hgd]
  rw [if_pos hw]
  exact wp_append_src s x t ho base e i z size bytes ht hi hz hsize hby hzs hsz v n xs hs hown oa m c news hx hl hsrc h1 h63 hbytes hbase h
/-- some hits, as a list -/
def hL (hs : Nat → HV) (n : Nat) : List HV := (List.range n).map hs
theorem hL_len (hs : Nat → HV) (n : Nat) : (hL hs n).length = n := by simp [hL]
theorem hL_get {hs : Nat → HV} {n i : Nat} {z : HV} (h : i < n) : (hL hs n).getD i z = hs i := by simp [hL, List.getD_eq_getElem?_getD, h]
/-- the others behind the muon's own -/
def hcat (hl : Nat → HV) (i : Nat) (os : Nat → HV) (k j : Nat) : HV := (hL hl i ++ hL os k).getD j hv0
theorem hcat_left {hl os : Nat → HV} {i k j : Nat} (h : j < i) : hcat hl i os k j = hl j := by
  have := hL_get (hs := hl) (z := hv0) h
  rw [List.getD_eq_getElem?_getD] at this
  rw [hcat, List.getD_eq_getElem?_getD, List.getElem?_append_left (by rw [hL_len]; exact h), this]
theorem hcat_right {hl os : Nat → HV} {i k j : Nat} (h : i ≤ j) (h2 : j < i + k) : hcat hl i os k j = os (j - i) := by
  have := hL_get (hs := os) (z := hv0) (i := j - i) (n := k) (by omega)
  rw [List.getD_eq_getElem?_getD] at this
  rw [hcat, List.getD_eq_getElem?_getD, List.getElem?_append_right (by rw [hL_len]; exact h), hL_len, this]
theorem addr_plus (b o j : Nat) : (⟨b, o, none⟩ : Addr).add j = ⟨b, o + j, none⟩ := by unfold Addr.add; split <;> simp_all
theorem hits_news {B : Nat} {w : World} {a : Option Addr} {n : Nat} {hs : Nat → HV} (h : Hits B w a n hs) : n = 0 ∨ ∃ ad, a = some ad ∧ ∀ j u, (hC (hL hs n))[j]? = some u → w.cell? (ad.add j) = some u := by
  by_cases h0 : n = 0
  · exact .inl h0
  · right
    obtain ⟨b, off, ha, _, _⟩ := h.get (i := 0) (by omega)
    refine ⟨_, ha, fun j u hu => ?_⟩
    have hj : j < n * 6 := by
      have := (List.getElem?_eq_some_iff.1 hu).1
      rwa [hC_len, hL_len] at this
    have hi : j / 6 < n := by omega
    obtain ⟨b2, off2, ha2, _, c0, c1, c2, c3, c4, c5⟩ := h.get hi
    rw [ha] at ha2
    injection ha2 with ha2
    injection ha2 with e1 e2
    subst e1 e2
    have hg := hC_get (hL hs n) (j / 6) (j % 6) hv0 (by rw [hL_len]; exact hi) (Nat.mod_lt _ (by omega))
    rw [show j / 6 * 6 + j % 6 = j by omega, hu, hL_get hi] at hg
    rw [addr_plus]
    have hr : j % 6 = 0 ∨ j % 6 = 1 ∨ j % 6 = 2 ∨ j % 6 = 3 ∨ j % 6 = 4 ∨ j % 6 = 5 := by omega
    rcases hr with r | r | r | r | r | r <;> rw [r] at hg <;> simp only [HV.cells, List.getElem?_cons_zero, List.getElem?_cons_succ] at hg
    · rw [show off + j = off + j / 6 * 6 by omega, hg]; exact c0
    · rw [show off + j = off + j / 6 * 6 + 1 by omega, hg]; exact c1
    · rw [show off + j = off + j / 6 * 6 + 2 by omega, hg]; exact c2
    · rw [show off + j = off + j / 6 * 6 + 3 by omega, hg]; exact c3
    · rw [show off + j = off + j / 6 * 6 + 4 by omega, hg]; exact c4
    · rw [show off + j = off + j / 6 * 6 + 5 by omega, hg]; exact c5
theorem hC_one_cell : ∀ (l : List HV), ∀ u ∈ hC l, u.oneCell' = true
  | [], u, h => by simp [hC] at h
  | h :: t, u, hu => by
    rw [hC, List.mem_append] at hu
    exact hu.elim (hv_one u) (hC_one_cell t u)
end Go.Proofs.Ytgcepjminlapiaa
namespace Go.Proofs.Ytgcepjminlapiaa
open Go.RowKit
set_option linter.unusedVariables false
set_option linter.unusedSimpArgs false
/-- a row of numbers -/
def NR (W : World) (b m : Nat) (f : Nat → Int) : Prop := ∃ cur, W.heap[b]? = some (.cells cur 3) ∧ cur.size = m ∧ ∀ j, j < m → cur[j]? = some (.int .i64 (f j))
section
variable {W W' : World} {b m : Nat} {f : Nat → Int}
theorem NR.lt (h : NR W b m f) : b < W.heap.size := by obtain ⟨cur, h1, _⟩ := h; exact (Array.getElem?_eq_some_iff.1 h1).1
theorem NR.cell (h : NR W b m f) {j : Nat} (hj : j < m) : W.cell? ⟨b, j, none⟩ = some (.int .i64 (f j)) := by
  obtain ⟨cur, h1, _, h2⟩ := h
  exact (cell_of_row _ _ _ _ _ _ h1).trans (h2 j hj)
theorem NR.frozen (h : NR W b m f) (j : Nat) : W.frozen? ⟨b, j, none⟩ = false := by
  obtain ⟨cur, h1, _, h2⟩ := h
  exact frozen_of_row _ _ _ _ _ h1
theorem NR.block (h : NR W b m f) (hb : W'.heap[b]? = W.heap[b]?) : NR W' b m f := by
  obtain ⟨cur, h1, h2, h3⟩ := h
  exact ⟨cur, hb.trans h1, h2, h3⟩
theorem NR.step (h : NR W b m f) (hb : Below W.heap.size W W') : NR W' b m f := h.block (hb.block b h.lt)
theorem NR.set (h : NR W b m f) {i : Nat} (hi : i < m) (x : Int) : NR (W.setCell ⟨b, i, none⟩ (.int .i64 x)) b m (fun j => if j = i then x else f j) := by
  obtain ⟨cur, h1, h2, h3⟩ := h
  refine ⟨cur.setIfInBounds i (.int .i64 x), heap_setCell_same W b i _ _ _ h1, by simpa using h2, fun j hj => ?_⟩
  by_cases e : j = i
  · subst e
    rw [Array.getElem?_setIfInBounds_self_of_lt (by omega)]
    simp
  · rw [Array.getElem?_setIfInBounds_ne (Ne.symm e), h3 j hj]
    simp [e]
theorem NR.congr {g : Nat → Int} (h : NR W b m f) (e : ∀ j, j < m → f j = g j) : NR W b m g := by
  obtain ⟨cur, h1, h2, h3⟩ := h
  exact ⟨cur, h1, h2, fun j hj => by rw [← e j hj]; exact h3 j hj⟩
theorem NR.made (W : World) (m : Nat) : NR (W.alloc (.cells (madeCells #[.int .i64 0] m) 3)) W.heap.size m (fun _ => 0) := by
  have e : (madeCells #[Value.int .i64 0] m).toList = List.replicate m (.int .i64 0) := toList_madeCells_one _ _
  refine ⟨_, heapQ_new rfl, ?_, fun j hj => ?_⟩
  · have := congrArg List.length e
    simpa using this
  · rw [← Array.getElem?_toList, e]
    simp [hj]
end
theorem Lists.keep {B : Nat} {w w' : World} {a : Option Addr} {ls : List (List Nat)} (h : Lists B w a ls) (hb : Below B w w') : Lists B w' a ls := by
  rcases h with h | ⟨b, off, ha, hB, hc⟩
  · exact .inl h
  · refine .inr ⟨b, off, ha, hB, fun j l hl => ?_⟩
    obtain ⟨g, c, h1, h2, h3⟩ := hc j l hl
    exact ⟨g, c, ((bcell hb).1 _ _ hB).trans h1, h2, fun i hi => ((bcell hb).1 _ _ h2).trans (h3 i hi)⟩
/-- one list of the lists -/
theorem Lists.at {B : Nat} {w : World} {a : Option Addr} {ls : List (List Nat)} (h : Lists B w a ls) {q : Nat} (hq : q < ls.length) : ∃ b off g c, a = some ⟨b, off, none⟩ ∧ b < B ∧ w.cell? ⟨b, off + q, none⟩ = some (.slice (some ⟨g, 0, none⟩) (ls.getD q []).length c) ∧ g < B ∧ ∀ k, k < (ls.getD q []).length → w.cell? ⟨g, k, none⟩ = some (.int .i64 (((ls.getD q []).getD k 0 : Nat) : Int)) := by
  rcases h with h | ⟨b, off, ha, hB, hc⟩
  · omega
  · have hg : ls[q]? = some (ls.getD q []) := by rw [List.getD_eq_getElem?_getD, List.getElem?_eq_getElem hq]; rfl
    obtain ⟨g, c, h1, h2, h3⟩ := hc q _ hg
    exact ⟨b, off, g, c, ha, hB, h1, h2, h3⟩
end Go.Proofs.Ytgcepjminlapiaa
