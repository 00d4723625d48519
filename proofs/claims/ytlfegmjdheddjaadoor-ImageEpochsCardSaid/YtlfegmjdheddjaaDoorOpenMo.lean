/- Numbers and beams that come in, opened. -/
import Derived.Test.YtlfegmjdheddjaaDoorGuA
namespace Go.Proofs.YtlfegmjdheddjaaDoor
open Go.ChangeShapes Go.WideShapes Go.ChangeAt Go.RowKit Go.Deep Go.Joins
set_option linter.unusedVariables false
set_option linter.unusedSimpArgs false
section
variable {H : Type} {enc : TypeId × Value → H} {w : World} {base : Nat} {held : Bool}
set_option maxRecDepth 100000 in
theorem int_of_wide {r : Reach} {b0 : Nat} {v : Value} {d : DataW H} {p : List MemPlace} (hv : Value.okWide Tryd.prog w r b0 3 v) (h : DataW.Trod enc Tryd.prog w base (fun _ => true) held 3 v d p) : ∃ i : Int, v = .int .i64 i ∧ (Lit.int .i64 i).wf = true := by
  obtain ⟨i, rfl, _, _, hw⟩ := open_int Tryd.underlying3 hv h
  exact ⟨i, rfl, hw⟩
set_option maxRecDepth 100000 in
theorem open_beam {r : Reach} {b0 : Nat} {v : Value} {d : DataW H} {p : List MemPlace} (hv : Value.okWide Tryd.prog w r b0 46 v) (h : DataW.Trod enc Tryd.prog w base (fun _ => true) held 46 v d p) :
    ∃ q : BM, v = q.val ∧ q.mem w.heap.size w := by
  obtain ⟨cs, rfl, hsz⟩ := okWide_struct Tryd.underlying46 hv
  have hsz1 : cs.size = 4 := hsz.trans (by kernel_rfl)
  obtain ⟨fuel, hf⟩ := h
  obtain ⟨q, ⟨k0, k1, k2, k3⟩, hm⟩ := beam_of hf
  obtain ⟨l⟩ := cs
  match l, hsz1 with
  | [c0, c1, c2, c3], _ =>
    have e0 : c0 = .slice q.ca q.cn q.cc := by simpa [Value.cells] using k0
    have e1 : c1 = .slice q.wa q.wn q.wc := by simpa [Value.cells] using k1
    have e2 : c2 = .int .i64 q.lo := by simpa [Value.cells] using k2
    have e3 : c3 = .int .i64 q.hi := by simpa [Value.cells] using k3
    subst e0 e1 e2 e3
    exact ⟨q, rfl, hm⟩
end
end Go.Proofs.YtlfegmjdheddjaaDoor
