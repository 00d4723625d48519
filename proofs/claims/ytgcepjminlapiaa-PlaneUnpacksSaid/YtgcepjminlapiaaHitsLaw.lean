/- Hits read out of bytes, by place. No program here. -/
import Derived.Test.YtgcepjminlapiaaTakeLaw
namespace Go.Proofs.Ytgcepjminlapiaa
set_option linter.unusedVariables false
set_option linter.unusedSimpArgs false
/-- a hit that is read, and where the next one begins -/
def hitP (l : List Nat) (last : Int) (k : Nat) : Option (HV × Nat) :=
  (tkP l k).bind fun a => (tkP l a.2).bind fun b => (tkP l b.2).bind fun c => (tkP l c.2).bind fun d => (tkP l d.2).bind fun e => (tkP l e.2).bind fun g =>
    some (⟨(a.1 : Int), (b.1 : Int), (c.1 : Int), (d.1 : Int), (e.1 : Int), last + unzig (g.1 : Int)⟩, g.2)
def hitsP (l : List Nat) : Nat → Int → Nat → Option (List HV × Nat)
  | 0, _, k => some ([], k)
  | m + 1, last, k => (hitP l last k).bind fun a => (hitsP l m a.1.time a.2).bind fun b => some (a.1 :: b.1, b.2)
/-- the hits of a file's body, from its fifth byte on -/
def unpL (l : List Nat) : Option (List HV) := (tkP l 4).bind fun a => (hitsP l a.1 0 a.2).bind fun b => if b.2 = l.length then some b.1 else none
def HsInv (l : List Nat) (many k0 : Nat) (L : List HV) (last : Int) (k : Nat) : Prop := L.length ≤ many ∧ hitsP l many 0 k0 = (hitsP l (many - L.length) last k).map fun q => (L ++ q.1, q.2)
theorem hs_start (l : List Nat) (many k0 : Nat) : HsInv l many k0 [] 0 k0 := ⟨by simp, by simp⟩
theorem hs_fail {l : List Nat} {many k0 : Nat} {L : List HV} {last : Int} {k : Nat} (h : HsInv l many k0 L last k) (hlt : L.length < many) (hf : hitP l last k = none) : hitsP l many 0 k0 = none := by
  rw [h.2]
  obtain ⟨f, e⟩ : ∃ f, many - L.length = f + 1 := ⟨many - L.length - 1, by omega⟩
  rw [e, hitsP, hf]; rfl
theorem hs_step {l : List Nat} {many k0 : Nat} {L : List HV} {last : Int} {k : Nat} {h : HV} {k' : Nat} (hi : HsInv l many k0 L last k) (hlt : L.length < many) (hf : hitP l last k = some (h, k')) : HsInv l many k0 (L ++ [h]) h.time k' := by
  refine ⟨by simp; omega, ?_⟩
  rw [hi.2]
  obtain ⟨f, e⟩ : ∃ f, many - L.length = f + 1 := ⟨many - L.length - 1, by omega⟩
  have e2 : many - (L ++ [h]).length = f := by simp; omega
  rw [e, e2, hitsP, hf]
  simp only [Option.bind_some]
  cases hitsP l f h.time k' with
  | none => rfl
  | some q => simp
theorem hs_end {l : List Nat} {many k0 : Nat} {L : List HV} {last : Int} {k : Nat} (h : HsInv l many k0 L last k) (he : many ≤ L.length) : hitsP l many 0 k0 = some (L, k) := by
  rw [h.2]
  have e : many - L.length = 0 := by omega
  rw [e, hitsP]; simp
theorem hit_bad {l : List Nat} {last : Int} {k : Nat} (h : tkP l k = none) : hitP l last k = none := by rw [hitP, h]; rfl
theorem unpL_none1 {l : List Nat} (h : tkP l 4 = none) : unpL l = none := by rw [unpL, h]; rfl
theorem unpL_none2 {l : List Nat} {many k : Nat} (h : tkP l 4 = some (many, k)) (h2 : hitsP l many 0 k = none) : unpL l = none := by rw [unpL, h]; simp only [Option.bind_some]; rw [h2]; rfl
theorem unpL_some {l : List Nat} {many k k' : Nat} {L : List HV} (h : tkP l 4 = some (many, k)) (h2 : hitsP l many 0 k = some (L, k')) : unpL l = if k' = l.length then some L else none := by rw [unpL, h]; simp only [Option.bind_some]; rw [h2]; rfl
/-! against what is read off lists -/
theorem tkP_map (l : List Nat) (k : Nat) : tkP l k = (tk (l.drop k)).map fun q => (q.1, l.length - q.2.length) := rfl
theorem hitP_tkH {l : List Nat} (hl : ∀ x ∈ l, x < 256) (last : Int) (k : Nat) : (hitP l last k = none ∧ tkH last (l.drop k) = none) ∨ ∃ h k', hitP l last k = some (h, k') ∧ tkH last (l.drop k) = some (h, l.drop k') ∧ k < k' ∧ k' ≤ l.length := by
  unfold hitP tkH
  cases h0 : tkP l k with
  | none => exact .inl ⟨rfl, by rw [tkP_none h0]; rfl⟩
  | some q0 =>
    obtain ⟨x0, k1⟩ := q0
    obtain ⟨_, p0, p0'⟩ := tkP_fits hl h0
    rw [tkP_drop hl h0]; simp only [Option.bind_some]
    cases h1 : tkP l k1 with
    | none => exact .inl ⟨rfl, by rw [tkP_none h1]; rfl⟩
    | some q1 =>
      obtain ⟨x1, k2⟩ := q1
      obtain ⟨_, p1, p1'⟩ := tkP_fits hl h1
      rw [tkP_drop hl h1]; simp only [Option.bind_some]
      cases h2 : tkP l k2 with
      | none => exact .inl ⟨rfl, by rw [tkP_none h2]; rfl⟩
      | some q2 =>
        obtain ⟨x2, k3⟩ := q2
        obtain ⟨_, p2, p2'⟩ := tkP_fits hl h2
        rw [tkP_drop hl h2]; simp only [Option.bind_some]
        cases h3 : tkP l k3 with
        | none => exact .inl ⟨rfl, by rw [tkP_none h3]; rfl⟩
        | some q3 =>
          obtain ⟨x3, k4⟩ := q3
          obtain ⟨_, p3, p3'⟩ := tkP_fits hl h3
          rw [tkP_drop hl h3]; simp only [Option.bind_some]
          cases h4 : tkP l k4 with
          | none => exact .inl ⟨rfl, by rw [tkP_none h4]; rfl⟩
          | some q4 =>
            obtain ⟨x4, k5⟩ := q4
            obtain ⟨_, p4, p4'⟩ := tkP_fits hl h4
            rw [tkP_drop hl h4]; simp only [Option.bind_some]
            cases h5 : tkP l k5 with
            | none => exact .inl ⟨rfl, by rw [tkP_none h5]; rfl⟩
            | some q5 =>
              obtain ⟨x5, k6⟩ := q5
              obtain ⟨_, p5, p5'⟩ := tkP_fits hl h5
              rw [tkP_drop hl h5]; simp only [Option.bind_some]
              exact .inr ⟨_, _, rfl, rfl, by omega, by omega⟩
theorem hitsP_tkHs {l : List Nat} (hl : ∀ x ∈ l, x < 256) : ∀ (m : Nat) (last : Int) (k : Nat), k ≤ l.length → (hitsP l m last k = none ∧ tkHs m last (l.drop k) = none) ∨ ∃ L k', hitsP l m last k = some (L, k') ∧ tkHs m last (l.drop k) = some (L, l.drop k') ∧ k' ≤ l.length
  | 0, last, k, hk => .inr ⟨[], k, rfl, rfl, hk⟩
  | m + 1, last, k, hk => by
    rw [hitsP, tkHs]
    rcases hitP_tkH hl last k with ⟨h1, h2⟩ | ⟨h, k', h1, h2, h3, h4⟩
    · exact .inl ⟨by rw [h1]; rfl, by rw [h2]; rfl⟩
    · rw [h1, h2]
      simp only [Option.bind_some]
      rcases hitsP_tkHs hl m h.time k' h4 with ⟨g1, g2⟩ | ⟨L, k'', g1, g2, g3⟩
      · exact .inl ⟨by rw [g1]; rfl, by rw [g2]; rfl⟩
      · exact .inr ⟨h :: L, k'', by rw [g1]; rfl, by rw [g2]; rfl, g3⟩
theorem tkP_of_tk {l : List Nat} {k n : Nat} {r : List Nat} (h : tk (l.drop k) = some (n, r)) : tkP l k = some (n, l.length - r.length) := by rw [tkP, h]; rfl
theorem packHs_byte : ∀ (hs : List HV) (last : Int), ∀ x ∈ packHs last hs, x < 256
  | [], last, x, h => by simp [packHs] at h
  | h :: t, last, x, hx => by
    rw [packHs, List.mem_append] at hx
    rcases hx with g | g
    · exact packH_byte x g
    · exact packHs_byte t h.time x g
/-- what was packed is read back -/
theorem unpL_pack {head : List Nat} {m : Nat} {hs : List HV} (hh : head.length = 4) (hhb : ∀ x ∈ head, x < 256) (hm : m = hs.length) (hm2 : m < 34359738368) (hp : ∀ h ∈ hs, packableB h = true) : unpL (head ++ (grp m ++ packHs 0 hs)) = some hs := by
  have hl : ∀ x ∈ head ++ (grp m ++ packHs 0 hs), x < 256 := by
    intro x hx
    simp only [List.mem_append] at hx
    rcases hx with h | h | h
    · exact hhb x h
    · exact grp_byte m x h
    · exact packHs_byte hs 0 x h
  have e4 : (head ++ (grp m ++ packHs 0 hs)).drop 4 = grp m ++ packHs 0 hs := by rw [← hh]; simp
  have h1 := tkP_of_tk (l := head ++ (grp m ++ packHs 0 hs)) (k := 4) (n := m) (r := packHs 0 hs) (by rw [e4]; exact tk_grp hm2 _)
  generalize hk : (head ++ (grp m ++ packHs 0 hs)).length - (packHs 0 hs).length = k at h1
  have hd : (head ++ (grp m ++ packHs 0 hs)).drop k = packHs 0 hs := by
    have e : (head ++ (grp m ++ packHs 0 hs)).length - (packHs 0 hs).length = (head ++ grp m).length := by simp only [List.length_append]; omega
    rw [← hk, e, ← List.append_assoc, List.drop_left]
  have hk2 : k ≤ (head ++ (grp m ++ packHs 0 hs)).length := by omega
  have ht := tkHs_pack hs 0 [] hp (by omega) (by omega)
  rw [List.append_nil, ← hm] at ht
  generalize head ++ (grp m ++ packHs 0 hs) = l at *
  rcases hitsP_tkHs hl m 0 k hk2 with ⟨_, g2⟩ | ⟨L, k', g1, g2, g3⟩
  · rw [hd, ht] at g2; cases g2
  · rw [hd, ht] at g2
    injection g2 with g2
    injection g2 with g2 g4
    subst g2
    rw [unpL_some h1 g1]
    have : l.length - k' = 0 := by have := congrArg List.length g4; rw [List.length_drop] at this; simpa using this.symm
    rw [if_pos (by omega)]
/-- what was read is packed as it was -/
theorem unpL_inv {l : List Nat} {L : List HV} (hl : ∀ x ∈ l, x < 256) (h4 : 4 ≤ l.length) (h : unpL l = some L) : l.drop 4 = grp L.length ++ packHs 0 L := by
  cases h1 : tkP l 4 with
  | none => rw [unpL_none1 h1] at h; cases h
  | some q =>
    obtain ⟨m, k⟩ := q
    have hd := tkP_drop hl h1
    have hk := tkP_fits hl h1
    have hi := (tk_inv (fun x hx => hl x (List.mem_of_mem_drop hx)) hd).1
    rcases hitsP_tkHs hl m 0 k hk.2.2 with ⟨g1, _⟩ | ⟨L', k', g1, g2, g3⟩
    · rw [unpL_none2 h1 g1] at h; cases h
    · rw [unpL_some h1 g1] at h
      by_cases e : k' = l.length
      · rw [if_pos e] at h
        injection h with h
        subst h
        obtain ⟨i1, i2⟩ := tkHs_inv m 0 (l.drop k) L' (l.drop k') (fun x hx => hl x (List.mem_of_mem_drop hx)) g2
        rw [hi, i1, i2, e]
        simp
      · rw [if_neg e] at h; cases h
theorem hitsP_len {l : List Nat} (hl : ∀ x ∈ l, x < 256) : ∀ (m : Nat) (last : Int) (k : Nat) (L : List HV) (k' : Nat), hitsP l m last k = some (L, k') → k ≤ l.length → L.length + k ≤ k' ∧ k' ≤ l.length
  | 0, last, k, L, k', h, hk => by
    rw [hitsP] at h; injection h with h; injection h with h1 h2; subst h1; subst h2; simp; exact hk
  | m + 1, last, k, L, k', h, hk => by
    rw [hitsP] at h
    rcases hitP_tkH hl last k with ⟨h1, h2⟩ | ⟨hh, k1, h1, h2, h3, h4⟩
    · rw [h1] at h; cases h
    · rw [h1] at h
      simp only [Option.bind_some] at h
      cases g : hitsP l m hh.time k1 with
      | none => rw [g] at h; cases h
      | some q =>
        obtain ⟨L2, k2⟩ := q
        rw [g] at h
        simp only [Option.bind_some] at h
        injection h with h; injection h with e1 e2; subst e1; subst e2
        have := hitsP_len hl m hh.time k1 L2 k2 g h4
        simp; omega
theorem unpL_len {l : List Nat} {L : List HV} (hl : ∀ x ∈ l, x < 256) (h4 : 4 ≤ l.length) (h : unpL l = some L) : L.length ≤ l.length := by
  cases h1 : tkP l 4 with
  | none => rw [unpL_none1 h1] at h; cases h
  | some q =>
    obtain ⟨m, k⟩ := q
    have hk := tkP_fits hl h1
    cases g : hitsP l m 0 k with
    | none => rw [unpL_none2 h1 g] at h; cases h
    | some q2 =>
      obtain ⟨L', k'⟩ := q2
      have hh := hitsP_len hl m 0 k L' k' g hk.2.2
      rw [unpL_some h1 g] at h
      by_cases e : k' = l.length
      · rw [if_pos e] at h
        injection h with h
        subst h
        omega
      · rw [if_neg e] at h; cases h
end Go.Proofs.Ytgcepjminlapiaa
