/- Opening an argument that is a rational number. -/
import Derived.Test.YtknafhogaheacaaDoorP0
import Derived.Test.YtknafhogaheacaaDoorT3
set_option linter.unusedVariables false
set_option linter.unusedSimpArgs false
set_option maxRecDepth 100000
namespace Go.Proofs.YtknafhogaheacaaDoor
open Go.ChangeShapes Go.WideShapes Go.ChangeAt Go.RowKit Go.Joins

theorem cellsR : Tryd.prog.cellsOf 27 = 3 := by kernel_rfl
theorem cellsI : Tryd.prog.cellsOf 25 = 2 := by kernel_rfl
theorem cellsN : Tryd.prog.cellsOf 23 = 1 := by kernel_rfl
theorem cellsB : Tryd.prog.cellsOf 4 = 1 := by kernel_rfl
section
variable {H : Type} {enc : TypeId × Value → H} {W : World} {base : Nat} {sp : Nat → Bool} {held : Bool}
theorem opn_rat {r : Reach} {b0 : Nat} {v : Value} {d : DataW H} {p : List MemPlace} (hv : Value.okWide Tryd.prog W r b0 27 v) (h : DataW.Trod enc Tryd.prog W base sp held 27 v d p) :
    ∃ b A1 A2 c1 c2 xs ys, v = ratV b (.slice A1 xs.length c1) (.slice A2 ys.length c2) ∧ Rd W A1 c1 xs ∧ Rd W A2 c2 ys := by
  obtain ⟨cs, rfl, hsz⟩ := okWide_struct Tryd.underlying27 hv
  obtain ⟨c0, c1, c2, rfl⟩ := array3 (hsz.trans cellsR)
  obtain ⟨fuel, hf⟩ := h
  obtain ⟨y0, y1, n, hx, _, h0, h1⟩ := trod_struct2 Tryd.underlying27 hf
  simp only [cellsI, cellsN, Value.cells] at h0 h1
  simp at h0 h1
  obtain ⟨z0, z1, m, hy, _, k0, k1⟩ := trod_struct2 Tryd.underlying25 h0
  simp only [cellsB, cellsN] at k0 k1
  simp at k0 k1
  obtain ⟨b, e0, _⟩ := DataW.trod_bool Tryd.underlying4 k0
  obtain ⟨A, c, xs, e1, hr⟩ := rd_of_trod Tryd.underlying23 k1
  obtain ⟨A', c', ys, e2, hr'⟩ := rd_of_trod Tryd.underlying23 h1
  simp at e0 e1 e2
  subst e0 e1 e2
  exact ⟨b, A, A', c, c', xs, ys, rfl, hr, hr'⟩
end
end Go.Proofs.YtknafhogaheacaaDoor
