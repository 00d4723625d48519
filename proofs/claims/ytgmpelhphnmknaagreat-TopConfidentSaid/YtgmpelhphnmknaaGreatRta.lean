/- Texts put together: ToVille, ToBet, ToCntD, ImAgr, ToTpL, ToTcA, ToTcB. -/
import Derived.Test.YtgmpelhphnmknaaGreatQbi
import Derived.KernelRfl
import Derived.Deep.AppendLies
import Derived.Lib.AppendIntMem
set_option maxRecDepth 100000
set_option maxHeartbeats 8000000
set_option linter.unusedVariables false
set_option linter.unusedSimpArgs false
namespace Go.Proofs.YtgmpelhphnmknaaGreat
theorem bet_fair (T P k c s h : Nat) (hk : k ≤ P) (hs : h ≤ s) : k * betH T P k c s h + (P - k) * betM T P k c s h ≤ P * c := by
  unfold betH betM
  by_cases h0 : k = 0
  · subst h0
    simp
  · rw [if_neg h0, if_neg h0]
    by_cases h1 : k = P
    · subst h1
      simp
    · rw [if_neg h1, if_neg h1]
      have hkp : 0 < k := by omega
      have hmp : 0 < P - k := by omega
      have e1 : (s + 2) * k * (c * (h + 1) * P / ((s + 2) * k)) ≤ c * (h + 1) * P := Nat.mul_div_le _ _
      have e2 : (s + 2) * (P - k) * (c * (s - h + 1) * P / ((s + 2) * (P - k))) ≤ c * (s - h + 1) * P := Nat.mul_div_le _ _
      generalize c * (h + 1) * P / ((s + 2) * k) = A at *
      generalize c * (s - h + 1) * P / ((s + 2) * (P - k)) = B at *
      have e3 : c * (h + 1) * P + c * (s - h + 1) * P = (s + 2) * (P * c) := by
        rw [← Nat.add_mul, ← Nat.mul_add, show h + 1 + (s - h + 1) = s + 2 by omega]
        rw [Nat.mul_comm c (s + 2), Nat.mul_assoc, Nat.mul_comm c P]
      have a1 : k * min T A ≤ k * A := Nat.mul_le_mul_left _ (Nat.min_le_right _ _)
      have a2 : (P - k) * min T B ≤ (P - k) * B := Nat.mul_le_mul_left _ (Nat.min_le_right _ _)
      have e4 : (s + 2) * (k * A + (P - k) * B) ≤ (s + 2) * (P * c) := by
        rw [← e3, Nat.mul_add, ← Nat.mul_assoc, ← Nat.mul_assoc]
        omega
      have e5 : k * A + (P - k) * B ≤ P * c := Nat.le_of_mul_le_mul_left e4 (by omega)
      omega
def excl (T P k L : Nat) : Nat → Nat → Nat → List Bool → Bool
  | c, s, h, [] => decide (L ≤ c)
  | c, s, h, b :: o => decide (L ≤ c) || (if b then excl T P k L (betH T P k c s h) (s + 1) (h + 1) o else excl T P k L (betM T P k c s h) (s + 1) h o)
def wgt (P k : Nat) : List Bool → Nat
  | [] => 1
  | b :: o => (if b then k else P - k) * wgt P k o
def sumL {α : Type} (f : α → Nat) : List α → Nat
  | [] => 0
  | x :: l => f x + sumL f l
theorem sumL_append {α : Type} (f : α → Nat) : ∀ a b : List α, sumL f (a ++ b) = sumL f a + sumL f b
  | [], b => by simp [sumL]
  | x :: a, b => by rw [List.cons_append, sumL, sumL, sumL_append f a b]; omega
theorem sumL_map {α β : Type} (f : β → Nat) (g : α → β) : ∀ l : List α, sumL f (l.map g) = sumL (fun x => f (g x)) l
  | [] => rfl
  | x :: l => by rw [List.map_cons, sumL, sumL, sumL_map f g l]
theorem sumL_mul {α : Type} (f : α → Nat) (m : Nat) : ∀ l : List α, sumL (fun x => m * f x) l = m * sumL f l
  | [] => by simp [sumL]
  | x :: l => by rw [sumL, sumL, sumL_mul f m l, Nat.mul_add]
theorem sumL_congr {α : Type} {f g : α → Nat} : ∀ l : List α, (∀ x ∈ l, f x = g x) → sumL f l = sumL g l
  | [], _ => rfl
  | x :: l, h => by rw [sumL, sumL, h x (by simp), sumL_congr l (fun y hy => h y (List.mem_cons_of_mem _ hy))]
theorem sumL_le {α : Type} {f g : α → Nat} : ∀ l : List α, (∀ x ∈ l, f x ≤ g x) → sumL f l ≤ sumL g l
  | [], _ => Nat.le_refl _
  | x :: l, h => by
    rw [sumL, sumL]
    have := h x (by simp)
    have := sumL_le l (fun y hy => h y (List.mem_cons_of_mem _ hy))
    omega
theorem all_weights {P k : Nat} (hk : k ≤ P) : ∀ n, sumL (wgt P k) (outs n) = P ^ n
  | 0 => rfl
  | n + 1 => by
    rw [outs, sumL_append, sumL_map, sumL_map]
    show sumL (fun o => k * wgt P k o) (outs n) + sumL (fun o => (P - k) * wgt P k o) (outs n) = _
    rw [sumL_mul, sumL_mul, all_weights hk n, ← Nat.add_mul, show k + (P - k) = P by omega, Nat.pow_succ, Nat.mul_comm]
theorem ville {T P k L : Nat} (hk : k ≤ P) : ∀ (n c s h : Nat), h ≤ s → L * sumL (fun o => if excl T P k L c s h o = true then wgt P k o else 0) (outs n) ≤ c * P ^ n
  | n, c, s, h, hs => by
    by_cases hL : L ≤ c
    · have e : sumL (fun o => if excl T P k L c s h o = true then wgt P k o else 0) (outs n) ≤ P ^ n := by
        rw [← all_weights hk n]
        exact sumL_le _ (fun o _ => by split <;> omega)
      exact Nat.mul_le_mul hL e
    · match n with
      | 0 =>
        simp [outs, sumL, excl, hL]
      | n + 1 =>
        rw [outs, sumL_append, sumL_map, sumL_map]
        have e1 : sumL (fun o => if excl T P k L c s h (true :: o) = true then wgt P k (true :: o) else 0) (outs n) = k * sumL (fun o => if excl T P k L (betH T P k c s h) (s + 1) (h + 1) o = true then wgt P k o else 0) (outs n) := by
          rw [← sumL_mul]
          refine sumL_congr _ fun o _ => ?_
          simp only [excl, wgt, hL, decide_false, Bool.false_or, if_true]
          split <;> simp
        have e2 : sumL (fun o => if excl T P k L c s h (false :: o) = true then wgt P k (false :: o) else 0) (outs n) = (P - k) * sumL (fun o => if excl T P k L (betM T P k c s h) (s + 1) h o = true then wgt P k o else 0) (outs n) := by
          rw [← sumL_mul]
          refine sumL_congr _ fun o _ => ?_
          simp only [excl, wgt, hL, decide_false, Bool.false_or, Bool.false_eq_true, if_false]
          split <;> simp
        rw [e1, e2]
        have i1 := ville (T := T) (L := L) hk n (betH T P k c s h) (s + 1) (h + 1) (by omega)
        have i2 := ville (T := T) (L := L) hk n (betM T P k c s h) (s + 1) h (by omega)
        generalize sumL (fun o => if excl T P k L (betH T P k c s h) (s + 1) (h + 1) o = true then wgt P k o else 0) (outs n) = X at *
        generalize sumL (fun o => if excl T P k L (betM T P k c s h) (s + 1) h o = true then wgt P k o else 0) (outs n) = Y at *
        have hf := bet_fair T P k c s h hk hs
        calc L * (k * X + (P - k) * Y) = k * (L * X) + (P - k) * (L * Y) := by rw [Nat.mul_add, Nat.mul_left_comm, Nat.mul_left_comm L (P - k)]
          _ ≤ k * (betH T P k c s h * P ^ n) + (P - k) * (betM T P k c s h * P ^ n) := Nat.add_le_add (Nat.mul_le_mul_left _ i1) (Nat.mul_le_mul_left _ i2)
          _ = (k * betH T P k c s h + (P - k) * betM T P k c s h) * P ^ n := by rw [Nat.add_mul, Nat.mul_assoc, Nat.mul_assoc]
          _ ≤ (P * c) * P ^ n := Nat.mul_le_mul_right _ hf
          _ = c * P ^ (n + 1) := by rw [Nat.pow_succ, Nat.mul_comm P c, Nat.mul_assoc, Nat.mul_comm P]
end Go.Proofs.YtgmpelhphnmknaaGreat
namespace Go.Proofs.YtgmpelhphnmknaaGreat
theorem run_out {T P k L : Nat} {b : BS} (hb : b.out = true) : ∀ o : List Bool, (bRun T P k L b o).out = true
 | [] => hb
 | x :: o => by
  show (bRun T P k L (bstep T P k L b x) o).out = true
  have e : bstep T P k L b x = b := by unfold bstep; rw [if_pos hb]
  rw [e]
  exact run_out hb o
theorem excl_over {T P k L c s h : Nat} (hc : L ≤ c) : ∀ o : List Bool, excl T P k L c s h o = true
 | [] => by simp [excl, hc]
 | x :: o => by simp [excl, hc]
theorem excl_run {T P k L : Nat} : ∀ (o : List Bool) (c s h : Nat), c < L → excl T P k L c s h o = (bRun T P k L ⟨c, s, h, false⟩ o).out
 | [], c, s, h, hc => by
  show decide (L ≤ c) = false
  rw [decide_eq_false (by omega)]
 | x :: o, c, s, h, hc => by
  have e : bRun T P k L ⟨c, s, h, false⟩ (x :: o) = bRun T P k L ⟨if x = true then betH T P k c s h else betM T P k c s h, s + 1, if x = true then h + 1 else h, decide (L ≤ if x = true then betH T P k c s h else betM T P k c s h)⟩ o := rfl
  rw [e]
  have e2 : excl T P k L c s h (x :: o) = excl T P k L (if x = true then betH T P k c s h else betM T P k c s h) (s + 1) (if x = true then h + 1 else h) o := by
   cases x <;> simp [excl, Nat.not_le.2 hc]
  rw [e2]
  generalize (if x = true then betH T P k c s h else betM T P k c s h) = c2
  by_cases h2 : L ≤ c2
  ·rw [excl_over h2, decide_eq_true h2, run_out rfl]
  ·rw [decide_eq_false h2]
   exact excl_run o c2 (s + 1) _ (by omega)
end Go.Proofs.YtgmpelhphnmknaaGreat
namespace Go.Proofs.YtgmpelhphnmknaaGreat
open Go.RowKit
theorem keptN_zero {B : Nat → BS} : ∀ n, keptN B n = 0 → ∀ k, k < n → (B k).out = true
 | 0, _, k, hk => by omega
 | n + 1, h, k, hk => by
  unfold keptN at h
  by_cases e : (B n).out = true
  ·by_cases e2 : k = n
   ·subst e2; exact e
   ·exact keptN_zero n (by omega) k (by omega)
  ·rw [if_neg e] at h; omega
end Go.Proofs.YtgmpelhphnmknaaGreat
namespace Go.Proofs.YtgmpelhphnmknaaGreat
open Go.RowKit
end Go.Proofs.YtgmpelhphnmknaaGreat
namespace Go.Proofs.YtgmpelhphnmknaaGreat
open Go Go.RowKit
theorem fOf_lst {n : Nat} {f : Nat → Int} {c : Nat} (hc : c < n) : fOf ((List.range n).map f) c = f c := by
 unfold fOf
 rw [List.getD_eq_getElem?_getD]
 simp [hc]
theorem td_all {n m : Nat} {ss : Nat → SV} {bs : Nat → BM} (hS : Shape n ss m bs) {f : Nat → Int} (h : ∀ c, c < n → (ss c).lo ≤ f c ∧ f c ≤ (ss c).hi) (ha : agreesB m bs f = true) : (List.range n).map f ∈ allF n ss m bs := by
 rw [allF_mem]
 refine ⟨?_, by simp, fun c hc => by rw [fOf_lst hc]; exact h c hc⟩
 rw [agreesB_congr hS (g := f) (fun c hc => fOf_lst hc)]
 exact ha
def bndT (n : Nat) (ss : Nat → SV) (m : Nat) (bs : Nat → BM) (i : Nat) : SV := bnd (fun f => fOf f i) (allF n ss m bs)
theorem td_bnd {n m : Nat} {ss : Nat → SV} {bs : Nat → BM} (hS : Shape n ss m bs) {f : Nat → Int} (h : ∀ c, c < n → (ss c).lo ≤ f c ∧ f c ≤ (ss c).hi) (ha : agreesB m bs f = true) {i : Nat} (hi : i < n) : (bndT n ss m bs i).lo ≤ f i ∧ f i ≤ (bndT n ss m bs i).hi := by
 unfold bndT
 have hm := td_all hS h ha
 have := (bnd_is (fun f => fOf f i) (fun e => by rw [e] at hm; cases hm)).all _ hm
 rwa [fOf_lst hi] at this
section
variable {a : Option Addr} {n c : Nat} {ba : Option Addr} {m bc : Nat} {ss : Nat → SV} {bs : Nat → BM} {w : World}
theorem td_bounds (hS : Spans w.heap.size w a n ss) (hM : Beams w.heap.size w ba m bs) (hC : checkN n ss m bs = 0) (hA : allF n ss m bs ≠ []) :
  Calls Tryz.prog 19 #[imageV a n c ba m bc] w fun e w' => (∃ ob, e = .returned (.tuple #[.slice (some ⟨ob, 0, none⟩) n n, .int .i64 0]) ∧ ob < w'.heap.size ∧ ∀ i, i < n → w'.cell? ⟨ob, i * 2, none⟩ = some (.int .i64 (bndT n ss m bs i).lo) ∧ w'.cell? ⟨ob, i * 2 + 1, none⟩ = some (.int .i64 (bndT n ss m bs i).hi)) ∧ Below w.heap.size w w' :=
 (Bounds_any a n c ba m bc ss bs w w.heap.size (Nat.le_refl _) hS hM).mono fun e w' h' => by
  have h2 := h'.2
  rw [if_pos hC, if_neg hA] at h2
  obtain ⟨ob, he, _, hs⟩ := h2
  exact ⟨⟨ob, he, hs.lt, fun i hi => hs.cell hi⟩, h'.1⟩
end
end Go.Proofs.YtgmpelhphnmknaaGreat
namespace Go.Proofs.YtgmpelhphnmknaaGreat
open Go Go.RowKit
def outL (n b : Nat) : List Bool := (List.range n).map fun i => b / 2 ^ i % 2 == 1
theorem outL_succ (n b : Nat) : outL (n + 1) b = outL n b ++ [b / 2 ^ n % 2 == 1] := by
 unfold outL
 rw [List.range_succ, List.map_append]
 rfl
theorem outL_len (n b : Nat) : (outL n b).length = n := by simp [outL]
theorem outL_head (n b : Nat) : outL (n + 1) b = (b % 2 == 1) :: outL n (b / 2) := by
 unfold outL
 rw [List.range_succ_eq_map, List.map_cons, List.map_map]
 congr 1
 ·simp
 ·apply List.map_congr_left
  intro i _
  show (b / 2 ^ (i + 1) % 2 == 1) = (b / 2 / 2 ^ i % 2 == 1)
  rw [Nat.div_div_eq_div_mul, Nat.pow_succ, Nat.mul_comm]
def sumU (f : Nat → Nat) : Nat → Nat
 | 0 => 0
 | n + 1 => sumU f n + f n
theorem sumU_two (f : Nat → Nat) : ∀ m, sumU f (2 * m) = sumU (fun b => f (2 * b)) m + sumU (fun b => f (2 * b + 1)) m
 | 0 => rfl
 | m + 1 => by
  rw [show 2 * (m + 1) = 2 * m + 1 + 1 by omega, sumU, sumU, sumU_two f m, sumU, sumU]
  omega
theorem sumU_congr {f g : Nat → Nat} : ∀ m, (∀ b, b < m → f b = g b) → sumU f m = sumU g m
 | 0, _ => rfl
 | m + 1, h => by rw [sumU, sumU, sumU_congr m (fun b hb => h b (by omega)), h m (by omega)]
theorem sumU_outs : ∀ (n : Nat) (f : List Bool → Nat), sumU (fun b => f (outL n b)) (2 ^ n) = sumL f (outs n)
 | 0, f => by
  show 0 + f (outL 0 0) = f [] + 0
  simp [outL]
 | n + 1, f => by
  rw [show 2 ^ (n + 1) = 2 * 2 ^ n by rw [Nat.pow_succ, Nat.mul_comm], sumU_two, outs, sumL_append, sumL_map, sumL_map, ← sumU_outs n (fun x => f (true :: x)), ← sumU_outs n (fun x => f (false :: x)), Nat.add_comm]
  congr 1
  ·exact sumU_congr _ fun b _ => by
    rw [outL_head, show (2 * b + 1) % 2 = 1 by omega, show (2 * b + 1) / 2 = b by omega]
    rfl
  ·exact sumU_congr _ fun b _ => by
    rw [outL_head, show (2 * b) % 2 = 0 by omega, show (2 * b) / 2 = b by omega]
    rfl
theorem wgt_snoc (P k : Nat) (x : Bool) : ∀ o : List Bool, wgt P k (o ++ [x]) = wgt P k o * (if x then k else P - k)
 | [] => by simp [wgt]
 | b :: o => by rw [List.cons_append, wgt, wgt, wgt_snoc P k x o, Nat.mul_assoc]
theorem wgt_le {P k : Nat} (hk : k ≤ P) (hP : 1 ≤ P) : ∀ o : List Bool, wgt P k o ≤ P ^ o.length
 | [] => by simp [wgt]
 | b :: o => by
  rw [wgt, List.length_cons, Nat.pow_succ, Nat.mul_comm]
  exact Nat.mul_le_mul (wgt_le hk hP o) (by split <;> omega)
theorem tb_info : (Tryz.prog.info? 4).map (fun i => (i.zero, i.size, i.bytes)) = some (some (.bool false), 1, 1) := by kernel_rfl
theorem tb_one {x : Bool} : ∀ u ∈ [Value.bool x], u.oneCell' = true := by
 intro u hu
 rw [List.mem_singleton] at hu
 subst hu
 rfl
theorem tb_bit {b i : Nat} (hb : b < 64) (hi : i < 6) : (bits BinOp.and IntKind.i64 ((b : Int) / 2 ^ i) 1 == 1) = (b / 2 ^ i % 2 == 1) := by
 have key : ∀ y : Nat, y < 64 → (bits BinOp.and IntKind.i64 (y : Int) 1 == 1) = (y % 2 == 1) := by decide +kernel
 have h1 : b / 2 ^ i < 64 := Nat.lt_of_le_of_lt (Nat.div_le_self _ _) hb
 have h2 : ((b : Int) / 2 ^ i) = ((b / 2 ^ i : Nat) : Int) := by simp
 rw [h2]
 exact key _ h1
theorem own_blk {w : World} {base : Nat} {e : TypeId} {k : Nat} {v : Value} {n : Nat} {xs : List Value} (h : w.ownsRow base e k v n xs) {b : Nat} (hb : v.ownBlock = some b) : base ≤ b := by
 rcases h.2 with ⟨rfl, _⟩ | ⟨g, cap, cur, rfl, h1, _⟩
 ·cases hb
 ·simp only [Value.ownBlock, Option.some.injEq] at hb; omega
def boolC (o : List Bool) : List Value := o.map .bool
theorem Outcome_any (n b : Nat) (w : World) (hn : n ≤ 6) (hb : b < 64) :
  Calls Tryz.prog 12 #[.int .i64 (n : Int), .int .i64 (b : Int)] w fun e w' => (∃ a cp, e = .returned (.slice a n cp) ∧ BoolsIn w' a (outL n b)) ∧ Below w.heap.size w w' := by
 have HBT := Hd (fun (i : Nat) (hi : i < n) => tb_bit (b := b) hb (show i < 6 by omega))
 have HSU := Hd (fun (i : Nat) => outL_succ i b)
 have HRES := Hd (fun (a : Option Addr) (cp : Nat) (W : World) (h : W.ownsRow w.heap.size 4 1 (.slice a n cp) n (boolC (outL n b))) => show BoolsIn W a (outL n b) from by
  rcases h.2 with ⟨h1, h2⟩ | ⟨g, cap, cur, h1, h2, h3, h4, h5, h6, h7⟩
  ·subst h2; exact .inl rfl
  ·injection h1 with h1 _ _
   refine .inr ⟨g, cur, _, h1, h3, fun i hi => ?_⟩
   rw [outL_len] at hi
   have h8 := congrArg (·[i]?) h7
   simp only [Nat.mul_one, List.getElem?_take, hi, if_true, boolC, List.getElem?_map] at h8
   rw [Array.getElem?_toList] at h8
   rw [h8, List.getElem?_eq_getElem (by rw [outL_len]; exact hi), List.getD_eq_getElem?_getD, List.getElem?_eq_getElem (by rw [outL_len]; exact hi)]
   rfl)
 obtain ⟨i0, hi0, hz0, hz1, hz2⟩ := info_parts tb_info
 clear hb
 go_enter Tryz.func12, Tryz.ntmps12
 go_wp2
 go_loopw [5, 6] (fun s5 s6 wr => ∃ (i : Nat) (a : Option Addr) (cp : Nat), i ≤ n ∧ s5 = .slice a i cp ∧ s6 = .int .i64 (i : Int) ∧ Hid (wr.ownsRow w.heap.size 4 1 (.slice a i cp) i (boolC (outL i b)) ∧ Below w.heap.size w wr)) (fun _ s6 _ => n - (intOf s6).toNat)
 case atStart => exact ⟨0, none, 0, Nat.zero_le _, rfl, rfl, Lib.hid ⟨World.ownsRow_nil _ _ _ _, Below.refl _ _⟩⟩
 case round =>
  obtain ⟨i, a, cp, hi, rfl, rfl, HI⟩ := hrel
  by_cases hl : i < n
  ·have hl' : (i : Int) < (n : Int) := by omega
   have hbt := HBT.out i hl
   generalize hbb : (b / 2 ^ i % 2 == 1) = bb at *
   have HXX := Lib.hid hbb
   clear hbb
   have HOW := Lib.hid HI.out.1
   have HNW := Hd (World.news_of_block (heap_alloc_new wr (.cells #[.bool bb] 4)))
   have HOA := Hd (HOW.out.alloc (.cells #[.bool bb] 4))
   have HZA := Hd (show (wr.alloc (.cells #[.bool bb] 4)).heap.size = wr.heap.size + 1 from by simp)
   have HBl := Lib.hid HI.out.2
   have hsz := HI.out.2.size
   have hb63 : i + 1 ≤ maxLen := by unfold maxLen; omega
   have hb47 : (i + 1) * 1 ≤ 140737488355328 := by omega
   go_upto_region 4 with (at_builtin; refine wpList_append_lies _ rfl _ _ 50 rfl w.heap.size 4 i0 _ 1 1 Tryz.underlying50 hi0 hz0 hz1 hz2 rfl (by decide) (.slice a i cp) i (boolC (outL i b)) rfl HOA.out ⟨wr.heap.size, 0, none⟩ 1 1 [.bool bb] rfl rfl HNW.out tb_one (by decide) hb63 hb47 (by have := HZA.out; omega) _ rfl ?_; intro g1 cp2 W13 hown13 hgrow13 hat13 hlt13; have HG13 := Lib.hid hgrow13; have HO13 := Lib.hid hown13; clear hown13 hgrow13 hat13 hlt13)
   have HBn := Hd (show Below w.heap.size w W13 from (HBl.out.alloc hsz _).grown HG13.out (by have := HZA.out; omega) (fun q hq => own_blk HOW.out hq))
   have HOn := Hd (show W13.ownsRow w.heap.size 4 1 (.slice (some ⟨g1, 0, none⟩) (i + 1) cp2) (i + 1) (boolC (outL (i + 1) b)) from by
    have := HO13.out
    rw [HSU.out, HXX.out]
    unfold boolC at *
    rw [List.map_append]
    exact this)
   clear HI HOW HNW HOA HZA HBl HG13 HO13
   go_wp2
   go_roundw
   case rel => exact ⟨i + 1, _, _, by omega, rfl, by go_num, Lib.hid ⟨HOn.out, HBn.out⟩⟩
   case measure => simp [intOf]; omega
  ·obtain rfl : i = n := by omega
   have hl' : ¬ (i : Int) < (i : Int) := by omega
   go_wp2
   go_ret
   exact ⟨⟨a, ⟨cp, rfl⟩, HRES.out _ _ _ HI.out.1⟩, HI.out.2⟩
theorem Weight_any (o : List Bool) (a : Option Addr) (cp P k : Nat) (w : World) (ho : BoolsIn w a o) (hn : o.length ≤ 6) (hP : 1 ≤ P ∧ P ≤ 12) (hk : k ≤ P) :
  Calls Tryz.prog 14 #[.slice a o.length cp, .int .i64 (P : Int), .int .i64 (k : Int)] w fun e w' => e = .returned (.int .i64 (wgt P k o : Nat)) ∧ Below w.heap.size w w' := by
 have HO := Lib.hid ho
 obtain ⟨n, hnn⟩ : ∃ n, o.length = n := ⟨_, rfl⟩
 have HN := Lib.hid hnn
 rw [hnn] at hn ⊢
 have HLE := Hd (fun (i : Nat) (hi : i ≤ n) => show wgt P k (o.take i) ≤ 2985984 from by
  have h1 := wgt_le hk hP.1 (o.take i)
  rw [List.length_take] at h1
  have h2 : P ^ (min i o.length) ≤ 12 ^ 6 := Nat.le_trans (Nat.pow_le_pow_left hP.2 _) (Nat.pow_le_pow_right (by decide) (by omega))
  omega)
 have HST := Hd (fun (i : Nat) (hi : i < n) => show wgt P k (o.take (i + 1)) = wgt P k (o.take i) * (if o.getD i false then k else P - k) from by
  have h1 : i < o.length := by omega
  rw [List.take_add_one, List.getElem?_eq_getElem h1, List.getD_eq_getElem?_getD, List.getElem?_eq_getElem h1]
  exact wgt_snoc P k _ _)
 have HEN := Hd (show wgt P k (o.take n) = wgt P k o from by rw [← hnn, List.take_length])
 have HZE := Hd (show wgt P k (o.take 0) = 1 from rfl)
 generalize wgt P k o = R at *
 clear ho hnn
 go_enter Tryz.func14, Tryz.ntmps14
 go_wp2
 go_loopw [7, 8] (fun s7 s8 wr => ∃ i : Nat, i ≤ n ∧ s7 = .int .i64 ((wgt P k (o.take i) : Nat) : Int) ∧ s8 = .int .i64 (i : Int) ∧ wr = w) (fun _ s8 _ => n - (intOf s8).toNat)
 case atStart => exact ⟨0, Nat.zero_le _, by rw [HZE.out]; rfl, rfl, rfl⟩
 case round =>
  obtain ⟨i, hi, rfl, rfl, rfl⟩ := hrel
  by_cases hl : i < n
  ·have hl' : (i : Int) < (n : Int) := by omega
   obtain ⟨b, rfl, hbz, hc⟩ := HO.out.get (i := i) (by have := HN.out; omega)
   have h1 := HLE.out i hi
   have h2 := HLE.out (i + 1) (by omega)
   have h3 := HST.out i hl
   generalize o.getD i false = x at *
   have HY := Lib.hid h3
   generalize wgt P k (o.take (i + 1)) = y at h2 h3
   generalize wgt P k (o.take i) = z at *
   cases x
   ·simp only [Bool.false_eq_true, if_false] at h3
    have h4 : (z : Int) * ((P : Int) - (k : Int)) = (y : Int) := by rw [h3, Int.natCast_mul, Int.natCast_sub hk]
    have h5 : 0 ≤ (P : Int) - (k : Int) ∧ (P : Int) - (k : Int) ≤ 12 := by omega
    generalize hpk : (P : Int) - (k : Int) = pk at *
    generalize hs : (z : Int) * pk = s at *
    go_wp2
    go_roundw
    case rel => exact ⟨i + 1, by omega, by rw [HY.out]; first | (simp [Int.natCast_mul, h4, ← h4, hs]; done) | (simp only [Bool.false_eq_true, if_false, if_true, Int.natCast_mul]; done) | (rw [h4, h3]; simp; done) | (simp only [Bool.false_eq_true, if_false, if_true]; rw [← h3]; exact congrArg _ h4), by go_num, by first | rfl | trivial⟩
    case measure => simp [intOf]; omega
   ·simp only [if_true] at h3
    have h4 : (z : Int) * (k : Int) = (y : Int) := by rw [h3, Int.natCast_mul]
    generalize hs : (z : Int) * (k : Int) = s at *
    have b1 : 0 ≤ s := by omega
    have b2 : s ≤ 2985984 := by omega
    have H4 := Lib.hid h4
    clear h4 h2 h3
    go_wp2
    go_roundw
    case rel => exact ⟨i + 1, by omega, by rw [HY.out]; simp only [if_true, Int.natCast_mul, hs], by go_num, by first | rfl | trivial⟩
    case measure => simp [intOf]; omega
  ·obtain rfl : i = n := by omega
   have hl' : ¬ (i : Int) < (i : Int) := by omega
   have HEN2 := Lib.hid HEN.out
   go_wp2
   go_ret
   exact ⟨by first | rfl | (rw [HEN2.out]; rfl), Below.refl _ _⟩
end Go.Proofs.YtgmpelhphnmknaaGreat
namespace Go.Proofs.YtgmpelhphnmknaaGreat
open Go Go.RowKit
def splZ (z : Int) : Nat → SPL := fun _ => ⟨z, ⟨0, 0, 0, 0⟩⟩
theorem splZ_ok {z : Int} (hz : 1 ≤ z ∧ z ≤ 1000000) (i : Nat) : (splZ z i).ok := ⟨hz, (spl1_ok 0).w⟩
section
variable {v : VO} {ga : Option Addr} {gn : Nat} {g : Nat → Int} {sa : Option Addr} {sn : Nat} {ss : Nat → SV} {da : Option Addr} {dn : Nat} {d : Nat → Int} {s : SK} {ta : Option Addr} {tn : Nat} {t : Nat → RW} {w W : World}
theorem TdIn.fxZ (h : TdIn v ga gn g sa sn ss da dn d s ta tn t w) (hb : Below w.heap.size w W) {z : Int} (hz : 1 ≤ z ∧ z ≤ 1000000) {sb : Nat} {st : TypeId} (hs : W.heap[sb]? = some (.cells #[.int .i64 z, .int .i64 0, .int .i64 0, .int .i64 0, .int .i64 0] st)) : FxIn s ta tn t (some ⟨sb, 0, none⟩) 1 (splZ z) W.heap.size W := by
 refine ⟨Nat.le_refl _, ?_, h.sok, ?_, h.tl, h.tok, .inr ⟨sb, 0, rfl, (blkL hs), fun i hi => ?_⟩, by decide, fun i hi => splZ_ok hz i⟩
 ·exact (h.sky.below hb).up hb.size
 ·exact (h.tab.below hb).up hb.size
 ·obtain rfl : i = 0 := by omega
  exact ⟨cell_of_row _ _ 0 _ _ _ hs, cell_of_row _ _ 1 _ _ _ hs, cell_of_row _ _ 2 _ _ _ hs, cell_of_row _ _ 3 _ _ _ hs, cell_of_row _ _ 4 _ _ _ hs⟩
theorem TdIn.calmZ (h : TdIn v ga gn g sa sn ss da dn d s ta tn t w) {z : Int} (hz : 1 ≤ z) {bin : Nat} (hbin : bin < s.bn) (x : Int) : mLo s tn t bin (splZ z) 1 x = eLo s tn t bin x ∧ mHi s tn t bin (splZ z) 1 x = eHi s tn t bin x := mn_calm s _ _ (splZ z) h.sok.parts (h.exp hbin x) hz rfl
theorem TdIn.opacZ (h : TdIn v ga gn g sa sn ss da dn d s ta tn t w) {z : Int} (hz : 1 ≤ z ∧ z ≤ 1000000) {bin : Nat} (hbin : bin < s.bn) {L H : Int} (hr : 0 ≤ L ∧ L ≤ H ∧ H ≤ s.P) :
  ∃ ol oh er : Int, ((er = 0 ∧ (0 ≤ ol ∧ ol ≤ oh ∧ oh ≤ 1000000) ∧ ∀ x, 0 ≤ x → x ≤ 1000000 → eLo s tn t bin x ≤ H → L ≤ eHi s tn t bin x → ol ≤ x ∧ x ≤ oh) ∨ (er = 5 ∧ ∀ x, 0 ≤ x → x ≤ 1000000 → eLo s tn t bin x ≤ H → L ≤ eHi s tn t bin x → False)) ∧
   ∀ (tc : Nat) (W : World), Below w.heap.size w W → ∀ (sb : Nat) (st : TypeId), W.heap[sb]? = some (.cells #[.int .i64 z, .int .i64 0, .int .i64 0, .int .i64 0, .int .i64 0] st) →
    Calls Tryz.prog 15 #[.agg s.cells, .slice ta tn tc, .int .i64 (bin : Int), .agg #[.int .i64 L, .int .i64 H], .slice (some ⟨sb, 0, none⟩) 1 1] W fun e w' => e = .returned (.tuple #[.agg #[.int .i64 ol, .int .i64 oh], .int .i64 er]) ∧ Below W.heap.size W w' := by
 have hc : CurveOk (fxSt s tn t bin (splZ z) 1).length (fFr (fxSt s tn t bin (splZ z) 1)) (fLw (fxSt s tn t bin (splZ z) 1)) (fHg (fxSt s tn t bin (splZ z) 1)) (mLo s tn t bin (splZ z) 1) (mHi s tn t bin (splZ z) 1) := curve_ok h.tok (fun y => mnLo s y (splZ z) 1) (fun y => mnHi s y (splZ z) 1)
 have hop := fun (tc : Nat) (W : World) (hb : Below w.heap.size w W) (sb : Nat) (st : TypeId) hs => Opacity_any s ta tn tc t (some ⟨sb, 0, none⟩) 1 1 (splZ z) bin L H W.heap.size W (h.fxZ (st := st) hb hz hs) hbin hr hc
 have hhas := fun (x : Int) (h0 : 0 ≤ x) (h1 : x ≤ 1000000) (hL : eLo s tn t bin x ≤ H) (hH : L ≤ eHi s tn t bin x) => op_has hc (fun x y h0 hxy _ => by
  rw [(h.calmZ hz.1 hbin x).1, (h.calmZ hz.1 hbin x).2, (h.calmZ hz.1 hbin y).1, (h.calmZ hz.1 hbin y).2]
  exact ex_anti h.tok (h.sok.rows bin hbin).2.1 h0 hxy) h0 h1 (L := L) (H := H) (by rw [(h.calmZ hz.1 hbin x).1]; exact hL) (by rw [(h.calmZ hz.1 hbin x).2]; exact hH)
 unfold OpRes at hop
 by_cases hi : opI (fxSt s tn t bin (splZ z) 1).length (fLw (fxSt s tn t bin (splZ z) 1)) (fHg (fxSt s tn t bin (splZ z) 1)) L H < (fxSt s tn t bin (splZ z) 1).length
 ·have hok := op_ok hc hi
  exact ⟨_, _, 0, .inl ⟨rfl, ⟨hok.1, hok.2.1, hok.2.2⟩, fun x h0 h1 h2 h3 => (hhas x h0 h1 h2 h3).2⟩, fun tc W hb sb st hs => (hop tc W hb sb st hs).mono fun e w' h1 => ⟨by have h2 := h1.2; rw [if_pos hi] at h2; exact h2, h1.1⟩⟩
 ·exact ⟨0, 0, 5, .inr ⟨rfl, fun x h0 h1 h2 h3 => hi (hhas x h0 h1 h2 h3).1⟩, fun tc W hb sb st hs => (hop tc W hb sb st hs).mono fun e w' h1 => ⟨by have h2 := h1.2; rw [if_neg hi] at h2; exact h2, h1.1⟩⟩
end
end Go.Proofs.YtgmpelhphnmknaaGreat
