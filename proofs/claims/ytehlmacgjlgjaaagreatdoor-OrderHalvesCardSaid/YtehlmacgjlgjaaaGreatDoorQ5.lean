/- What the rows' condition gives of the table of roundings. -/
import Derived.Test.YtehlmacgjlgjaaaGreatDoorQ3
import Derived.Test.YtehlmacgjlgjaaaGreatDoorN3
import Derived.LaidMore
set_option linter.unusedVariables false
set_option linter.unusedSimpArgs false
set_option maxRecDepth 100000
namespace Go.Proofs.YtehlmacgjlgjaaaGreatDoor
open Go.ChangeShapes Go.WideShapes Go.ChangeAt Go.RowKit Go.Joins

theorem moreAt : Tryz.prog.globalNamed "reckoner/fin.more" = some 0 := by kernel_rfl
theorem moreTy : (Tryz.prog.globals[0]?).map (·.type) = some 143 := by kernel_rfl
theorem cellsF : Tryz.prog.cellsOf 142 = 1 := by kernel_rfl
theorem cells5 : Tryz.prog.cellsOf 143 = 5 := by kernel_rfl
theorem five {α : Type} {l : List α} (h : l.length = 5) : ∃ a b c d e, l = [a, b, c, d, e] := by
  match l, h with
  | [a, b, c, d, e], _ => exact ⟨a, b, c, d, e, rfl⟩
theorem of_more {W : World} (h : laidMetH Tryz.prog [("math/bits.deBruijn64tab", Rows.laid_math_bits_deBruijn64tab), ("reckoner/fin.more", Rows.laid_reckoner_fin_more)] W) : MoreT W := by
  obtain ⟨g, t, cs, fuel, p, hg, ht, hv, hd⟩ := h.funcs (n := "reckoner/fin.more") (List.mem_cons_of_mem _ (List.mem_singleton.2 rfl))
  obtain rfl := Option.some.inj (moreAt.symm.trans hg)
  obtain rfl := Option.some.inj (moreTy.symm.trans ht)
  have hd' : DataW.trod (funcToken Tryz.prog) Tryz.prog W 0 (fun _ => true) true fuel 143 cs.toList = some (.agg [.held [114, 101, 99, 107, 111, 110, 101, 114, 47, 102, 105, 110, 46, 109, 111, 114, 101, 36, 49], .held [114, 101, 99, 107, 111, 110, 101, 114, 47, 102, 105, 110, 46, 109, 111, 114, 101, 36, 50], .held [114, 101, 99, 107, 111, 110, 101, 114, 47, 102, 105, 110, 46, 109, 111, 114, 101, 36, 51], .held [114, 101, 99, 107, 111, 110, 101, 114, 47, 102, 105, 110, 46, 109, 111, 114, 101, 36, 52], .held [114, 101, 99, 107, 111, 110, 101, 114, 47, 102, 105, 110, 46, 109, 111, 114, 101, 36, 53]], p) := hd
  obtain ⟨xs, m, -, hx, hl, hn, hel⟩ := DataW.trod_array Tryz.underlying143 hd'
  rw [cells5] at hl
  obtain ⟨c0, c1, c2, c3, c4, hcs⟩ := five hl
  obtain ⟨x0, x1, x2, x3, x4, rfl⟩ := five hn
  simp only [Prod.mk.injEq, DataW.agg.injEq, List.map_cons, List.map_nil, List.cons.injEq, and_true] at hx
  obtain ⟨⟨e0, e1, e2, e3, e4⟩, -⟩ := hx
  have k0 := hel 0 (by omega)
  have k1 := hel 1 (by omega)
  have k2 := hel 2 (by omega)
  have k3 := hel 3 (by omega)
  have k4 := hel 4 (by omega)
  rw [cellsF, hcs] at k0 k1 k2 k3 k4
  have j0 : DataW.trod (funcToken Tryz.prog) Tryz.prog W 0 (fun _ => true) true m 142 [c0] = some x0 := k0
  have j1 : DataW.trod (funcToken Tryz.prog) Tryz.prog W 0 (fun _ => true) true m 142 [c1] = some x1 := k1
  have j2 : DataW.trod (funcToken Tryz.prog) Tryz.prog W 0 (fun _ => true) true m 142 [c2] = some x2 := k2
  have j3 : DataW.trod (funcToken Tryz.prog) Tryz.prog W 0 (fun _ => true) true m 142 [c3] = some x3 := k3
  have j4 : DataW.trod (funcToken Tryz.prog) Tryz.prog W 0 (fun _ => true) true m 142 [c4] = some x4 := k4
  obtain ⟨y0, q0⟩ := x0
  obtain ⟨y1, q1⟩ := x1
  obtain ⟨y2, q2⟩ := x2
  obtain ⟨y3, q3⟩ := x3
  obtain ⟨y4, q4⟩ := x4
  simp only at e0 e1 e2 e3 e4
  subst e0 e1 e2 e3 e4
  obtain rfl := func_of_trod (f0 := 189) Tryz.underlying142 (by kernel_rfl) j0
  obtain rfl := func_of_trod (f0 := 190) Tryz.underlying142 (by kernel_rfl) j1
  obtain rfl := func_of_trod (f0 := 191) Tryz.underlying142 (by kernel_rfl) j2
  obtain rfl := func_of_trod (f0 := 192) Tryz.underlying142 (by kernel_rfl) j3
  obtain rfl := func_of_trod (f0 := 193) Tryz.underlying142 (by kernel_rfl) j4
  have hcell := fun i => World.var?_cell hg hv i
  have hget : ∀ i : Nat, cs[i]? = cs.toList[i]? := fun i => (Array.getElem?_toList ..).symm
  refine ⟨?_, ?_, ?_, ?_, ?_⟩
  · rw [hcell 0, hget, hcs]; rfl
  · rw [hcell 1, hget, hcs]; rfl
  · rw [hcell 2, hget, hcs]; rfl
  · rw [hcell 3, hget, hcs]; rfl
  · rw [hcell 4, hget, hcs]; rfl
end Go.Proofs.YtehlmacgjlgjaaaGreatDoor
