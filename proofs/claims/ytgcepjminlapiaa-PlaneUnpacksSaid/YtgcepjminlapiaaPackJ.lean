/- The walk of plane.Unpack. -/
import Derived.Test.YtgcepjminlapiaaPackI
namespace Go.Proofs.Ytgcepjminlapiaa
open Go.RowKit
set_option linter.unusedVariables false
set_option linter.unusedSimpArgs false
def packL (L : List HV) : Bool := packB L.length (fun i => L.getD i hv0)
/-- the error and the hits of a file: n bytes f, whose body is l -/
def UnpackIs (n : Nat) (f : Nat → Nat) (l : List Nat) (E : Int) (L : List HV) : Prop :=
  (40000 < n ∧ E = 3 ∧ L = []) ∨ (n ≤ 1000 ∧ n < 7 ∧ E = 4 ∧ L = []) ∨ (n ≤ 1000 ∧ 7 ≤ n ∧ ¬ headOk f n ∧ E = 4 ∧ L = []) ∨
    (n ≤ 1000 ∧ 7 ≤ n ∧ headOk f n ∧ ((unpL l = none ∧ E = 4 ∧ L = []) ∨ ∃ L', unpL l = some L' ∧ ((packL L' = false ∧ E = 2 ∧ L = []) ∨ (packL L' = true ∧ E = 0 ∧ L = L'))))
def UnpackRes (w : World) (E : Int) (L : List HV) (e : Ending) (w' : World) : Prop :=
  ∃ a c, e = .returned (.tuple #[.slice a L.length c, .int .i64 E]) ∧ w'.ownsRow w.heap.size 26 6 (.slice a L.length c) L.length (hC L) ∧ Below w.heap.size w w'
theorem unpackRes_nil {w w' : World} {E : Int} {e : Ending} (he : e = .returned (.tuple #[.slice none 0 0, .int .i64 E])) (hb : Below w.heap.size w w') : UnpackRes w E [] e w' :=
  ⟨none, 0, he, World.ownsRow_nil _ _ _ _, hb⟩
set_option maxRecDepth 100000 in
set_option maxHeartbeats 1000000 in
theorem unpack_short (a : Option Addr) (n c : Nat) (w : World) (hn : n < 7) : Calls Try.prog 72 #[.slice a n c] w fun e w' => e = .returned (.tuple #[.slice none 0 0, .bool false]) ∧ Below w.heap.size w w' := by
  have hmf : ∀ (fn : Fn) (first cap : Array Value) (w : World), (Instr.makeFunc fn first cap).run Try.prog w = .ok (.func fn first cap) w := fun _ _ _ _ => rfl
  have h1 : (n : Int) < 7 := by omega
  go_enter_defers Try.func72, Try.ntmps72
  go_wp2
  (refine leaves_cons (f := 88) (args := #[.pointer (some ⟨w.heap.size, 0, none⟩), .pointer (some ⟨w.heap.size + 1, 0, none⟩)]) (by simp) (by simp [go_sem]) ?_; refine (catch_idle _ _ _).mono ?_; rintro e u' w'' ⟨rfl, rfl, rfl⟩)
  simp [Leaves, settle, results, Try.results72, go_sem]
  exact ((Below.refl _ _).alloc (Nat.le_refl _) _).alloc (by simp) _
theorem Unpack_short (a : Option Addr) (n c : Nat) (w : World) (hn : n < 7) : Calls Try.prog 41 #[.slice a n c] w fun e w' => e = .returned (.tuple #[.slice none 0 0, .int .i64 4]) ∧ Below w.heap.size w w' := by
  have h1 : ¬ (40000 : Int) < (n : Int) := by omega
  go_enter Try.func41, Try.ntmps41
  go_wp2_with (go_at_call 72; refine (unpack_short _ _ _ _ hn).mono ?_; rintro e wy ⟨rfl, hby⟩)
  go_ret2
  exact ⟨rfl, hby⟩
theorem Unpack_long (a : Option Addr) (n c : Nat) (w : World) (hn : 40000 < n) (hm : n ≤ maxLen) : Calls Try.prog 41 #[.slice a n c] w fun e w' => e = .returned (.tuple #[.slice none 0 0, .int .i64 3]) ∧ Below w.heap.size w w' := by
  unfold maxLen at hm
  have h1 : (40000 : Int) < (n : Int) := by omega
  go_enter Try.func41, Try.ntmps41
  go_wp2
  go_ret2
  exact ⟨rfl, Below.refl _ _⟩
set_option maxRecDepth 100000 in
set_option maxHeartbeats 1000000 in
theorem Unpack_head (b off n c : Nat) (f : Nat → Nat) (w : World) (hb : b < w.heap.size) (hc : ∀ i, i < n → w.cell? ⟨b, off + i, none⟩ = some (.int .u8 (f i : Int))) (hf : ∀ i, i < n → f i < 256) (h7 : 7 ≤ n) (hn : n ≤ 1000) (hnc : n ≤ c) (hcm : c ≤ maxLen) (hs : headOk f n)
    (l : List Nat) (hl : l.length = n - 2) (hlf : ∀ i, i < n - 2 → l.getD i 0 = f i) (E : Int) (L : List HV) (hE : (unpL l = none ∧ E = 4 ∧ L = []) ∨ ∃ L', unpL l = some L' ∧ ((packL L' = false ∧ E = 2 ∧ L = []) ∨ (packL L' = true ∧ E = 0 ∧ L = L'))) :
    Calls Try.prog 41 #[.slice (some ⟨b, off, none⟩) n c] w (UnpackRes w E L) := by
  have hby : ∀ x ∈ l, x < 256 := fun x hx => by
    obtain ⟨i, hi, rfl⟩ := List.getElem_of_mem hx
    have e := hlf i (by omega)
    rw [List.getD_eq_getElem?_getD, List.getElem?_eq_getElem hi] at e
    have e2 : l[i] = f i := e
    rw [e2]; exact hf i (by omega)
  have HU := Lib.hid (unpack_ok b off n c f w hb hc hf h7 hn hnc hcm hs l hl hlf)
  have HLN := Lib.hid (fun L' h => unpL_len (L := L') hby (by omega) h)
  have h1 : ¬ (40000 : Int) < (n : Int) := by omega
  clear hc hf hs hlf
  rcases hE with ⟨hn1, rfl, rfl⟩ | ⟨L', hn1, hp⟩
  · have HN := Lib.hid hn1
    clear hn1
    go_enter Try.func41, Try.ntmps41
    go_wp2_with (go_at_call 72; refine HU.out.mono ?_; rintro e wy ⟨v, ok, rfl, hbl, ⟨va, vn, vc, rfl⟩, hh⟩; obtain rfl : ok = false := (by rcases hh with ⟨_, h⟩ | ⟨L', h, _⟩; exact h; (rw [HN.out] at h; cases h)))
    go_ret2
    exact unpackRes_nil rfl hbl
  · have hLn := HLN.out L' hn1
    have HN := Lib.hid hn1
    clear hn1
    have hLm : L'.length ≤ 1000 := by omega
    rcases hp with ⟨hp, rfl, rfl⟩ | ⟨hp, rfl, rfl⟩
    · have HP := Lib.hid hp
      clear hp
      go_enter Try.func41, Try.ntmps41
      go_wp2_with (first | (go_at_call 72; refine HU.out.mono ?_; rintro e wy ⟨v, ok, rfl, hbl, ⟨va, vn, vc, rfl⟩, hh⟩; obtain ⟨rfl, hown⟩ : ok = true ∧ wy.ownsRow w.heap.size 26 6 (.slice va vn vc) L'.length (hC L') := (by rcases hh with ⟨h, _⟩ | ⟨L2, h, h2, h3⟩; (rw [HN.out] at h; cases h); (rw [HN.out] at h; injection h with h; subst h; exact ⟨h2, h3⟩)); obtain ⟨rfl, _, hHi⟩ := own_hits hown (by unfold maxLen; omega); have HHi := Lib.hid hHi; clear hh hown hHi) | (go_at_call 66; refine (packable_any va L'.length vc (fun i => L'.getD i hv0) _ wy.heap.size (Nat.le_refl _) HHi.out).mono ?_; rintro e wz ⟨rfl, hbz⟩; rw [show packB L'.length (fun i => L'.getD i hv0) = false from HP.out]))
      go_ret2
      exact unpackRes_nil rfl (hbl.trans (hbz.mono hbl.size))
    · have HP := Lib.hid hp
      clear hp
      go_enter Try.func41, Try.ntmps41
      go_wp2_with (first | (go_at_call 72; refine HU.out.mono ?_; rintro e wy ⟨v, ok, rfl, hbl, ⟨va, vn, vc, rfl⟩, hh⟩; obtain ⟨rfl, hown⟩ : ok = true ∧ wy.ownsRow w.heap.size 26 6 (.slice va vn vc) L.length (hC L) := (by rcases hh with ⟨h, _⟩ | ⟨L2, h, h2, h3⟩; (rw [HN.out] at h; cases h); (rw [HN.out] at h; injection h with h; subst h; exact ⟨h2, h3⟩)); obtain ⟨rfl, _, hHi⟩ := own_hits hown (by unfold maxLen; omega); have HHi := Lib.hid hHi; have HOW := Lib.hid hown; clear hh hown hHi) | (go_at_call 66; refine (packable_any va L.length vc (fun i => L.getD i hv0) _ wy.heap.size (Nat.le_refl _) HHi.out).mono ?_; rintro e wz ⟨rfl, hbz⟩; rw [show packB L.length (fun i => L.getD i hv0) = true from HP.out]))
      go_ret2
      exact ⟨va, vc, rfl, own_below HOW.out hbz, hbl.trans (hbz.mono hbl.size)⟩
theorem Unpack_any (a : Option Addr) (n c : Nat) (f : Nat → Nat) (w : World) (B : Nat) (hBw : B ≤ w.heap.size) (hB : Bytes B w a n f) (hf : ∀ i, i < n → f i < 256) (hnc : n ≤ c) (hcm : c ≤ maxLen)
    (l : List Nat) (hl : l.length = n - 2) (hlf : ∀ i, i < n - 2 → l.getD i 0 = f i) (E : Int) (L : List HV) (hE : UnpackIs n f l E L) : Calls Try.prog 41 #[.slice a n c] w (UnpackRes w E L) := by
  rcases hE with ⟨h1, rfl, rfl⟩ | ⟨h0, h1, rfl, rfl⟩ | ⟨h0, h1, h2, rfl, rfl⟩ | ⟨h0, h1, h2, h3⟩
  · exact (Unpack_long a n c w h1 (by omega)).mono fun e w' ⟨he, hb⟩ => unpackRes_nil he hb
  · exact (Unpack_short a n c w h1).mono fun e w' ⟨he, hb⟩ => unpackRes_nil he hb
  · rcases hB with e0 | ⟨b, off, rfl, hbB, hc⟩
    · omega
    · exact (Unpack_spoilt b off n c f w (by omega) hc hf h1 h0 hnc hcm h2).mono fun e w' ⟨he, hb⟩ => unpackRes_nil he hb
  · rcases hB with e0 | ⟨b, off, rfl, hbB, hc⟩
    · omega
    · exact Unpack_head b off n c f w (by omega) hc hf h1 h0 hnc hcm h2 l hl hlf E L h3
end Go.Proofs.Ytgcepjminlapiaa
