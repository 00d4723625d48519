/- The walks of unpack's deferred function, and of unpack and Unpack where a file is spoilt. -/
import Derived.Test.YtgcepjminlapiaaPackC
import Derived.Defers
import Derived.Recover
import Derived.Laws.Pointers
import Derived.Laws.BytesString
import Derived.Laws.IdiomStrings
namespace Go.Proofs.Ytgcepjminlapiaa
open Go.RowKit
set_option linter.unusedVariables false
set_option linter.unusedSimpArgs false
theorem catch_idle (p q : Addr) (w : World) :
    CallsD Try.prog 88 #[.pointer (some p), .pointer (some q)] .returning w fun e u' w' => e = .returned (.tuple #[]) ∧ u' = .returning ∧ w' = w := by
  refine callsD_of_wpS Try.func88 rfl fun c₀ cs hu => ?_
  apply wpS_seq
  apply wpS_region
  simp [wpOpsS, go_sem, recoverD, hu, Try.ntmps88, Exit.thenS]
  apply wpS_seq
  apply wpS_region
  simp [wpOpsS, go_sem, Exit.thenS, Array.replicate]
  refine wpS_cond (t := false) (by simp [Act.eval, Array.replicate]) ?_
  simp only [Bool.false_eq_true, if_false]
  refine wpS_of_wp (wp_skip ?_)
  cases c₀
  simp_all [bodyPostS, results, Try.results88]
/-- the four bytes at a file's head, as a string -/
theorem run_head {P : Program} (w : World) (src dst e : TypeId) (hs : P.underlying src = some (.slice e)) (he : P.underlying e = some (.int .u8)) (hd : P.underlying dst = some .string) (b off cap : Nat) (c0 c1 c2 c3 : UInt8)
    (h0 : w.cell? ⟨b, off, none⟩ = some (.int .u8 (c0.toNat : Int))) (h1 : w.cell? ⟨b, off + 1, none⟩ = some (.int .u8 (c1.toNat : Int))) (h2 : w.cell? ⟨b, off + 2, none⟩ = some (.int .u8 (c2.toNat : Int))) (h3 : w.cell? ⟨b, off + 3, none⟩ = some (.int .u8 (c3.toNat : Int))) :
    (convert src dst (.slice (some ⟨b, off, none⟩) 4 cap)).run P w = .ok (.string ⟨#[c0, c1, c2, c3]⟩) w := by
  refine run_convert_bytes_back (P := P) w src dst e ⟨b, off, none⟩ cap [c0, c1, c2, c3] hs he hd (fun j hj => ?_)
  rw [addr_add]
  match j, hj with
  | 0, _ => exact h0
  | 1, _ => exact h1
  | 2, _ => exact h2
  | 3, _ => exact h3
def u8 (x : Nat) : UInt8 := UInt8.ofNat x
theorem u8_toNat {x : Nat} (h : x < 256) : ((u8 x).toNat : Int) = (x : Int) := by
  unfold u8; rw [UInt8.toNat_ofNat']; have : x % 2 ^ 8 = x := by omega
  rw [this]
theorem u8_inj {x y : Nat} (hx : x < 256) (hy : y < 256) (h : u8 x = u8 y) : x = y := by
  have h1 := u8_toNat hx
  have h2 := u8_toNat hy
  rw [h] at h1; omega
theorem run_arrayAt {P : Program} (w : World) (t e : TypeId) (a : Addr) (c : Nat) (ht : P.underlying t = some (.array 2 e)) : (Instr.arrayAt t (.slice (some a) 2 c)).run P w = .ok (.pointer (some a)) w := by
  simp [Instr.arrayAt, run_underlying ht]
theorem eq_pair (w : World) (x0 x1 y0 y1 : Int) : (Op.equalIn (9999 + 1) 114 (.agg #[.int .u8 x0, .int .u8 x1]) (.agg #[.int .u8 y0, .int .u8 y1])).run Try.prog w = .ok (x0 == y0 && x1 == y1) w := by
  have hu := run_underlying (P := Try.prog) (w := w) Try.underlying114
  have hi : (sizeOf 5).run Try.prog w = .ok 1 w := by kernel_rfl
  have p0 : ∀ (a b : Int), (part 5 #[.int .u8 a, .int .u8 b] 0).run Try.prog w = .ok (.int .u8 a) w := fun a b => by simp [part, go_sem]
  have p1 : ∀ (a b : Int), (part 5 #[.int .u8 a, .int .u8 b] 1).run Try.prog w = .ok (.int .u8 b) w := fun a b => by simp [part, go_sem]
  have q : ∀ (a b : Int), (Op.equalIn (9998 + 1) 5 (.int .u8 a) (.int .u8 b)).run Try.prog w = .ok (a == b) w := fun a b => run_equalIn_int w 9998 5 .u8 .u8 a b Try.underlying5
  rw [Op.equalIn]
  simp only [Sem.run_bind, hu, Result.andThen_ok, hi]
  by_cases h0 : x0 = y0 <;> by_cases h1 : x1 = y1 <;> simp [List.range', p0, p1, q, Sem.run_bind, Result.andThen_ok, Sem.run_pure, h0, h1]
theorem neq_pair (w : World) (x0 x1 y0 y1 : Int) : (binOp .neq 114 (.agg #[.int .u8 x0, .int .u8 x1]) (.agg #[.int .u8 y0, .int .u8 y1])).run Try.prog w = .ok (.bool (!(x0 == y0 && x1 == y1))) w := by
  rw [run_neq_struct]
  have := eq_pair w x0 x1 y0 y1
  rw [show (10000 : Nat) = 9999 + 1 from rfl, this]
  rfl
theorem cell_two {w : World} {b o : Nat} (hb : b < w.heap.size) (o1 o2 : Obj) : ((w.alloc o1).alloc o2).cell? ⟨b, o, none⟩ = w.cell? ⟨b, o, none⟩ :=
  ((((Below.refl w.heap.size w).alloc (Nat.le_refl _) o1).alloc (by simp) o2).cell (p := ⟨b, o, none⟩) hb)
set_option maxRecDepth 100000 in
set_option maxHeartbeats 1000000 in
theorem unpack_magic (b off n c : Nat) (f : Nat → Nat) (w : World) (hb : b < w.heap.size) (hc : ∀ i, i < n → w.cell? ⟨b, off + i, none⟩ = some (.int .u8 (f i : Int))) (hf : ∀ i, i < n → f i < 256) (h7 : 7 ≤ n) (hn : n ≤ 1000) (hnc : n ≤ c) (hcm : c ≤ maxLen) (g : Nat → Bool) (hg : g 0 = (u8 (f 0) == 79) ∧ g 1 = (u8 (f 1) == 86) ∧ g 2 = (u8 (f 2) == 69) ∧ g 3 = (u8 (f 3) == 49)) (hm : (g 0 && (g 1 && (g 2 && g 3))) = false) : Calls Try.prog 72 #[.slice (some ⟨b, off, none⟩) n c] w fun e w' => e = .returned (.tuple #[.slice none 0 0, .bool false]) ∧ Below w.heap.size w w' := by
  have hmf : ∀ (fn : Fn) (first cap : Array Value) (w : World), (Instr.makeFunc fn first cap).run Try.prog w = .ok (.func fn first cap) w := fun _ _ _ _ => rfl
  unfold maxLen at hcm
  have hconv := fun (o1 o2 : Obj) (c' : Nat) => run_head (P := Try.prog) ((w.alloc o1).alloc o2) 70 9 5 Try.underlying70 Try.underlying5 Try.underlying9 b off c' (u8 (f 0)) (u8 (f 1)) (u8 (f 2)) (u8 (f 3)) (by rw [cell_two hb, u8_toNat (hf 0 (by omega))]; exact hc 0 (by omega)) (by rw [cell_two hb, u8_toNat (hf 1 (by omega))]; exact hc 1 (by omega)) (by rw [cell_two hb, u8_toNat (hf 2 (by omega))]; exact hc 2 (by omega)) (by rw [cell_two hb, u8_toNat (hf 3 (by omega))]; exact hc 3 (by omega))
  have h1 : ¬ (n : Int) < 7 := by omega
  have h2 : (4 : Int) ≤ (c : Int) := by omega
  obtain ⟨g0, g1, g2, g3⟩ := hg
  generalize u8 (f 0) = d0 at *
  generalize u8 (f 1) = d1 at *
  generalize u8 (f 2) = d2 at *
  generalize u8 (f 3) = d3 at *
  clear hc hf
  generalize g 0 = e0 at *
  generalize g 1 = e1 at *
  generalize g 2 = e2 at *
  generalize g 3 = e3 at *
  replace g0 := g0.symm
  replace g1 := g1.symm
  replace g2 := g2.symm
  replace g3 := g3.symm
  cases e0 <;> cases e1 <;> cases e2 <;> cases e3 <;> simp at hm
  all_goals
    go_enter_defers Try.func72, Try.ntmps72
    go_wp2
    (refine leaves_cons (f := 88) (args := #[.pointer (some ⟨w.heap.size, 0, none⟩), .pointer (some ⟨w.heap.size + 1, 0, none⟩)]) (by simp) (by simp [go_sem]) ?_; refine (catch_idle _ _ _).mono ?_; rintro e u' w'' ⟨rfl, rfl, rfl⟩)
    simp [Leaves, settle, results, Try.results72, go_sem]
    exact ((Below.refl _ _).alloc (Nat.le_refl _) _).alloc (by simp) _
set_option maxRecDepth 100000 in
set_option maxHeartbeats 1000000 in
theorem unpack_sum (b off n c : Nat) (f : Nat → Nat) (w : World) (hb : b < w.heap.size) (hc : ∀ i, i < n → w.cell? ⟨b, off + i, none⟩ = some (.int .u8 (f i : Int))) (hf : ∀ i, i < n → f i < 256) (h7 : 7 ≤ n) (hn : n ≤ 1000) (hnc : n ≤ c) (hcm : c ≤ maxLen) (g0 : f 0 = 79) (g1 : f 1 = 86) (g2 : f 2 = 69) (g3 : f 3 = 49) (hs : ¬ (chkN f (n - 2) / 256 = f (n - 2) ∧ chkN f (n - 2) % 256 = f (n - 1))) : Calls Try.prog 72 #[.slice (some ⟨b, off, none⟩) n c] w fun e w' => e = .returned (.tuple #[.slice none 0 0, .bool false]) ∧ Below w.heap.size w w' := by
  have hmf : ∀ (fn : Fn) (first cap : Array Value) (w : World), (Instr.makeFunc fn first cap).run Try.prog w = .ok (.func fn first cap) w := fun _ _ _ _ => rfl
  unfold maxLen at hcm
  have hconv := fun (o1 o2 : Obj) (c' : Nat) => run_head (P := Try.prog) ((w.alloc o1).alloc o2) 70 9 5 Try.underlying70 Try.underlying5 Try.underlying9 b off c' (u8 (f 0)) (u8 (f 1)) (u8 (f 2)) (u8 (f 3)) (by rw [cell_two hb, u8_toNat (hf 0 (by omega))]; exact hc 0 (by omega)) (by rw [cell_two hb, u8_toNat (hf 1 (by omega))]; exact hc 1 (by omega)) (by rw [cell_two hb, u8_toNat (hf 2 (by omega))]; exact hc 2 (by omega)) (by rw [cell_two hb, u8_toNat (hf 3 (by omega))]; exact hc 3 (by omega))
  rw [g0, g1, g2, g3] at hconv
  have h1 : ¬ (n : Int) < 7 := by omega
  have h2 : (4 : Int) ≤ (c : Int) := by omega
  have HC := Lib.hid hc
  have HF := Lib.hid hf
  have HS := Lib.hid hs
  clear hc hf hs g0 g1 g2 g3
  go_enter_defers Try.func72, Try.ntmps72
  go_upto_region 5 with (fail)
  have p0 : w.cell? ⟨b, off + (n - 2), none⟩ = some (.int .u8 (f (n - 2) : Int)) := HC.out (n - 2) (by omega)
  have p1 : w.cell? ⟨b, off + (n - 2) + 1, none⟩ = some (.int .u8 (f (n - 1) : Int)) := by have := HC.out (n - 1) (by omega); rw [show off + (n - 2) + 1 = off + (n - 1) by omega]; exact this
  have HBy := Lib.hid (show Bytes w.heap.size w (some ⟨b, off, none⟩) (n - 2) f from .inr ⟨b, off, rfl, hb, fun i hi => HC.out i (by omega)⟩)
  have HFB := Lib.hid (fun i (hi : i < n - 2) => HF.out i (by omega))
  have HFa := HF.out (n - 2) (by omega)
  have HFb := HF.out (n - 1) (by omega)
  have HAL := Lib.hid (show Below w.heap.size w ((w.alloc (.cells #[.slice none 0 0] 65)).alloc (.cells #[.bool false] 4)) from ((Below.refl _ _).alloc (Nat.le_refl _) _).alloc (by simp) _)
  have hbz : b < w.heap.size + 2 := by omega
  have hn2 : n - 2 ≤ 2000 := by omega
  obtain ⟨ck, hck⟩ : ∃ x, x = chkN f (n - 2) := ⟨_, rfl⟩
  have HCK := Lib.hid hck
  have HSK := Lib.hid (show ¬ (ck / 256 = f (n - 2) ∧ ck % 256 = f (n - 1)) by rw [hck]; exact HS.out)
  clear hck
  generalize f (n - 2) = fa at *
  generalize f (n - 1) = fb at *
  have i1 : IntKind.i64.wrap ((n : Int) - 2) = (n : Int) - 2 := IntWalk.i64_in _ (by omega)
  have i2 : (2 : Int) ≤ (n : Int) := by omega
  have i3 : (n : Int) - 2 ≤ (n : Int) := by omega
  have i4 : ((n : Int) - 2).toNat = n - 2 := by omega
  have i5 : ¬ (c : Int) - ((n : Int) - 2) = 0 := by omega
  have i6 : ¬ c - (n - 2) = 0 := by omega
  have i7 : n - (n - 2) = 2 := by omega
  have i8 : (n : Int) ≤ (c : Int) := by omega
  have i9 : ¬ c ≤ n - 2 := by omega
  have hneq := fun (W : World) (x0 x1 y0 y1 : Int) => neq_pair W x0 x1 y0 y1
  have harr := fun (W : World) (a : Addr) (c' : Nat) => run_arrayAt (P := Try.prog) W 114 5 a c' Try.underlying114
  have HCH := Lib.hid (fun (W : World) (h2 : Below w.heap.size w W) => show Calls Try.prog 68 #[.slice (some ⟨b, off, none⟩) (n - 2) c] W (fun e w' => e = .returned (.agg #[.int .u8 ((ck : Int) / 256), .int .u8 ((ck : Int) % 256)]) ∧ Below W.heap.size W w') from by
    have h3 := check16_any (some ⟨b, off, none⟩) (n - 2) c f W w.heap.size h2.size (HBy.out.below h2) HFB.out hn2
    rw [← HCK.out] at h3
    simpa using h3)
  by_cases q0 : (ck : Int) / 256 = (fa : Int)
  · rw [← q0] at p0
    have q1 : ¬ (ck : Int) % 256 = (fb : Int) := fun e => HSK.out ⟨by omega, by omega⟩
    have q2 : ((ck : Int) % 256 == (fb : Int)) = false := by simpa using q1
    clear q0
    (refine wp_region_calm (w.heap.size + 2) (by kernel_rfl) (by kernel_rfl) ?_; (repeat (first | go_big_quiet_step ((go_at_call 68; exact Calls.calm_of (by simp) (HCH.out _ (HAL.out.trans (Below.mono (Calm.below _) (by omega)))))) | quiet_step ((go_at_call 68; exact Calls.calm_of (by simp) (HCH.out _ (HAL.out.trans (Below.mono (Calm.below _) (by omega)))))))); refine wpQuiet_nil ?_; intro _ hw'; obtain ⟨xq, hw''⟩ := hw'; subst hw'')
    clear i1 i2 i3 i4 i5 i6 i7 i8 i9
    have hBx : Below w.heap.size w xq.val := HAL.out.trans (xq.below.mono (by omega))
    obtain ⟨hcx, hfx⟩ := bcell xq.below
    go_wp2
    (refine leaves_cons (f := 88) (args := #[.pointer (some ⟨w.heap.size, 0, none⟩), .pointer (some ⟨w.heap.size + 1, 0, none⟩)]) (by simp) (by simp [go_sem]) ?_; refine (catch_idle _ _ _).mono ?_; rintro e u' w'' ⟨rfl, rfl, rfl⟩)
    simp [Leaves, settle, results, Try.results72, go_sem]
    exact (hBx.setCell (p := ⟨_, _, _⟩) (by simp) _).setCell (p := ⟨_, _, _⟩) (by simp) _
  · have q2 : ((ck : Int) / 256 == (fa : Int)) = false := by simpa using q0
    (refine wp_region_calm (w.heap.size + 2) (by kernel_rfl) (by kernel_rfl) ?_; (repeat (first | go_big_quiet_step ((go_at_call 68; exact Calls.calm_of (by simp) (HCH.out _ (HAL.out.trans (Below.mono (Calm.below _) (by omega)))))) | quiet_step ((go_at_call 68; exact Calls.calm_of (by simp) (HCH.out _ (HAL.out.trans (Below.mono (Calm.below _) (by omega)))))))); refine wpQuiet_nil ?_; intro _ hw'; obtain ⟨xq, hw''⟩ := hw'; subst hw'')
    clear i1 i2 i3 i4 i5 i6 i7 i8 i9
    have hBx : Below w.heap.size w xq.val := HAL.out.trans (xq.below.mono (by omega))
    obtain ⟨hcx, hfx⟩ := bcell xq.below
    go_wp2
    (refine leaves_cons (f := 88) (args := #[.pointer (some ⟨w.heap.size, 0, none⟩), .pointer (some ⟨w.heap.size + 1, 0, none⟩)]) (by simp) (by simp [go_sem]) ?_; refine (catch_idle _ _ _).mono ?_; rintro e u' w'' ⟨rfl, rfl, rfl⟩)
    simp [Leaves, settle, results, Try.results72, go_sem]
    exact (hBx.setCell (p := ⟨_, _, _⟩) (by simp) _).setCell (p := ⟨_, _, _⟩) (by simp) _
/-- what a file must show to be read at all -/
def headOk (f : Nat → Nat) (n : Nat) : Prop := (f 0 = 79 ∧ f 1 = 86 ∧ f 2 = 69 ∧ f 3 = 49) ∧ chkN f (n - 2) / 256 = f (n - 2) ∧ chkN f (n - 2) % 256 = f (n - 1)
theorem unpack_spoilt (b off n c : Nat) (f : Nat → Nat) (w : World) (hb : b < w.heap.size) (hc : ∀ i, i < n → w.cell? ⟨b, off + i, none⟩ = some (.int .u8 (f i : Int))) (hf : ∀ i, i < n → f i < 256) (h7 : 7 ≤ n) (hn : n ≤ 1000) (hnc : n ≤ c) (hcm : c ≤ maxLen) (hs : ¬ headOk f n) : Calls Try.prog 72 #[.slice (some ⟨b, off, none⟩) n c] w fun e w' => e = .returned (.tuple #[.slice none 0 0, .bool false]) ∧ Below w.heap.size w w' := by
  by_cases hm : f 0 = 79 ∧ f 1 = 86 ∧ f 2 = 69 ∧ f 3 = 49
  · exact unpack_sum b off n c f w hb hc hf h7 hn hnc hcm hm.1 hm.2.1 hm.2.2.1 hm.2.2.2 (fun h => hs ⟨hm, h⟩)
  · refine unpack_magic b off n c f w hb hc hf h7 hn hnc hcm (fun i => if i = 0 then (u8 (f 0) == 79) else if i = 1 then (u8 (f 1) == 86) else if i = 2 then (u8 (f 2) == 69) else (u8 (f 3) == 49)) ⟨rfl, rfl, rfl, rfl⟩ ?_
    rw [Bool.eq_false_iff]
    intro h
    simp at h
    refine hm ⟨u8_inj (hf 0 (by omega)) (by omega) h.1, u8_inj (hf 1 (by omega)) (by omega) h.2.1, u8_inj (hf 2 (by omega)) (by omega) h.2.2.1, u8_inj (hf 3 (by omega)) (by omega) h.2.2.2⟩
set_option maxRecDepth 100000 in
set_option maxHeartbeats 1000000 in
theorem Unpack_spoilt (b off n c : Nat) (f : Nat → Nat) (w : World) (hb : b < w.heap.size) (hc : ∀ i, i < n → w.cell? ⟨b, off + i, none⟩ = some (.int .u8 (f i : Int))) (hf : ∀ i, i < n → f i < 256) (h7 : 7 ≤ n) (hn : n ≤ 1000) (hnc : n ≤ c) (hcm : c ≤ maxLen) (hs : ¬ headOk f n) :
    Calls Try.prog 41 #[.slice (some ⟨b, off, none⟩) n c] w fun e w' => e = .returned (.tuple #[.slice none 0 0, .int .i64 4]) ∧ Below w.heap.size w w' := by
  have HU := Lib.hid (unpack_spoilt b off n c f w hb hc hf h7 hn hnc hcm hs)
  have h1 : ¬ (40000 : Int) < (n : Int) := by omega
  clear hc hf hs
  go_enter Try.func41, Try.ntmps41
  go_wp2_with (go_at_call 72; refine HU.out.mono ?_; rintro e wy ⟨rfl, hby⟩)
  go_ret2
  exact ⟨rfl, hby⟩
end Go.Proofs.Ytgcepjminlapiaa
