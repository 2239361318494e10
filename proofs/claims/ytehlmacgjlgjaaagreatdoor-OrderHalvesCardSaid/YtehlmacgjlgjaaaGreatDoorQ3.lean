/- How the arguments of chapter 21's laws are opened; the program's own start meets the rows' condition (one table). Opening an integer argument. The program's own start meets the rows' condition where the table of roundings is listed too; what the condition gives. -/
import Derived.Test.YtehlmacgjlgjaaaGreatDoorS1
import Derived.Test.YtehlmacgjlgjaaaGreatDoorRows
import Derived.Lib.SmallJoins
import Derived.WalkKit
import Derived.ProofKit
import Derived.OpenShut
import Derived.ShutString
import Derived.ChangeOld
import Derived.LaidMore
import Derived.Stop.Joined
import Derived.Test.YtehlmacgjlgjaaaGreatDoorU1
import Derived.LaidSub
import Derived.LaidHandle
set_option linter.unusedVariables false
set_option linter.unusedSimpArgs false
set_option maxRecDepth 100000
namespace Go.Proofs.YtehlmacgjlgjaaaGreatDoor
open Go.ChangeShapes Go.WideShapes Go.ChangeAt Go.RowKit Go.Joins

theorem own : ownKnob Tryz.prog.godebug = none := by kernel_rfl
theorem laidOut : laidOutB Tryz.prog = true := by kernel_rfl
/-- The program's own start meets the condition. -/
theorem door_met1 (os : Os) (args : Array Value) : laidMetH Tryz.prog [("math/bits.deBruijn64tab", Rows.laid_math_bits_deBruijn64tab)] ((World.doorLaid Tryz.prog 400 os).forCall (fun _ _ => 0) ⟨#[], args, []⟩).memory :=
  laidMetH_of_parts3 (fuel := 8) (laidMet_of_run' 8 (by kernel_rfl) (by kernel_rfl)) (by kernel_rfl) (by kernel_rfl)
theorem tabAt : Tryz.prog.globalNamed "math/bits.deBruijn64tab" = some 1 := by kernel_rfl
theorem tabTy : (Tryz.prog.globals[1]?).map (·.type) = some 173 := by kernel_rfl
theorem bytes_laid1 {H : Type} {enc : TypeId × Value → H} {W : World} {base : Nat} {sp : Nat → Bool} {held : Bool} {fuel n : Nat} {t e : TypeId} {cs : List Value} {p : List MemPlace} {L : List Nat}
    (ht : Tryz.prog.underlying t = some (.array n e)) (he : Tryz.prog.underlying e = some (.int .u8)) (ce : Tryz.prog.cellsOf e = 1)
    (h : DataW.trod enc Tryz.prog W base sp held fuel t cs = some (.agg (L.map fun j : Nat => .lit (.int .u8 j)), p)) : ∀ j, j < L.length → cs[j]? = some (.int .u8 (L.getD j 0 : Nat)) := by
  obtain ⟨xs, m, -, hx, -, hn, hel⟩ := DataW.trod_array ht h
  simp only [Prod.mk.injEq, DataW.agg.injEq] at hx
  intro j hj
  have hlen : L.length = xs.length := by simpa using congrArg List.length hx.1
  have h1 := hel j (by omega)
  rw [ce, Nat.mul_one] at h1
  obtain ⟨x, hxj⟩ : ∃ x, xs[j]? = some x := ⟨_, List.getElem?_eq_getElem (by omega)⟩
  rw [hxj] at h1
  obtain ⟨k, e1, e2, -⟩ := DataW.trod_int he h1
  have h2 : (L.map fun j : Nat => (DataW.lit (.int .u8 j) : DataW H))[j]? = (xs.map fun x => x.fst)[j]? := by rw [hx.1]
  rw [List.getElem?_map, List.getElem?_map, hxj, List.getElem?_eq_getElem hj] at h2
  subst e2
  simp at h2
  rw [List.getD_eq_getElem?_getD, List.getElem?_eq_getElem hj, Option.getD_some]
  rw [h2]
  have h3 := congrArg (fun l : List Value => l[0]?) e1
  simpa using h3
theorem of_laid1 {W : World} (h : laidMetH Tryz.prog [("math/bits.deBruijn64tab", Rows.laid_math_bits_deBruijn64tab)] W) : Tab W := by
  rw [MakeChecks.laidMetH_plain _ _ _ (by kernel_rfl)] at h
  obtain ⟨ps, ⟨g1, t1, cs1, f1, p1, q1, hg1, ht1, hv1, hd1, _, _⟩, _, _⟩ := h
  obtain rfl := Option.some.inj (tabAt.symm.trans hg1)
  obtain rfl := Option.some.inj (tabTy.symm.trans ht1)
  refine ⟨fun j hj => ?_⟩
  have hL : (Rows.laid_math_bits_deBruijn64tab : DataW Unit) = .agg (Lib.deBruijn64tab.map fun j : Nat => .lit (.int .u8 j)) := rfl
  rw [hL] at hd1
  have := World.var?_cell hg1 hv1 j
  rw [this]
  have h2 := bytes_laid1 Tryz.underlying173 Tryz.underlying5 (by kernel_rfl) hd1 j hj
  simpa using h2
theorem cells24 : Tryz.prog.cellsOf 23 = 2 := by kernel_rfl
theorem cells37 : Tryz.prog.cellsOf 29 = 4 := by kernel_rfl
theorem cells64 : Tryz.prog.cellsOf 60 = 1 := by kernel_rfl

section
variable {H : Type} {enc : TypeId × Value → H} {W : World} {base : Nat} {sp : Nat → Bool} {held : Bool}
theorem rd_of_trod {fuel : Nat} {t : TypeId} {cs : List Value} {x : DataW H × List MemPlace} (ht : Tryz.prog.underlying t = some (.slice 60)) (h : DataW.trod enc Tryz.prog W base sp held fuel t cs = some x) :
    ∃ A c xs, cs = [.slice A xs.length c] ∧ Rd W A c xs := by
  rcases open_ints ht Tryz.underlying60 cells64 h with ⟨hcs, _⟩ | ⟨a, l, c, zs, hcs, _, hl, hm, hz, _, hcell, hwz⟩
  · exact ⟨none, 0, [], hcs, Rd.nil _ _ _⟩
  · have hlz : l ≤ zs.length := by rw [hz]; split <;> omega
    have hlen : ((zs.take l).map Int.toNat).length = l := by rw [List.length_map, List.length_take]; omega
    have hb : ∀ n ∈ zs, 0 ≤ n ∧ n ≤ 18446744073709551615 := fun n hn => bounds_u64 (hwz n hn)
    refine ⟨some a, c, (zs.take l).map Int.toNat, by rw [hlen]; exact hcs, ?_⟩
    refine ⟨by omega, by rw [hlen]; simp only [maxLen] at hm; omega, ?_, fun i hi => ⟨a, rfl, ?_⟩⟩
    · intro y hy
      obtain ⟨n, hn, rfl⟩ := List.mem_map.1 hy
      have := hb n (List.mem_of_mem_take hn)
      rw [B_eq]; omega
    · rw [hlen] at hi
      rw [hcell i (by omega)]
      have h1 : i < zs.length := by omega
      have h2 : zs.getD i 0 = zs[i] := by rw [List.getD_eq_getElem?_getD, List.getElem?_eq_getElem h1]; rfl
      have h3 : ((zs.take l).map Int.toNat).getD i 0 = zs[i].toNat := by
        rw [List.getD_eq_getElem?_getD, List.getElem?_map, List.getElem?_take_of_lt hi, List.getElem?_eq_getElem h1]; rfl
      have := hb zs[i] (List.getElem_mem h1)
      rw [h2, h3]
      have e : ((zs[i].toNat : Nat) : Int) = zs[i] := Int.toNat_of_nonneg this.1
      rw [e]
theorem opn_nat {r : Reach} {b0 : Nat} {v : Value} {d : DataW H} {p : List MemPlace} (hv : Value.okWide Tryz.prog W r b0 27 v) (h : DataW.Trod enc Tryz.prog W base sp held 27 v d p) : ∃ A c xs, v = .slice A xs.length c ∧ Rd W A c xs := by
  obtain ⟨a0, len, cap, rfl⟩ := okWide_slice Tryz.underlying27 hv
  obtain ⟨fuel, hf⟩ := h
  obtain ⟨A, c, xs, hcs, hr⟩ := rd_of_trod Tryz.underlying27 hf
  simp [Value.cells] at hcs
  obtain ⟨rfl, rfl, rfl⟩ := hcs
  exact ⟨_, _, xs, rfl, hr⟩
theorem opn_fmt {r : Reach} {b0 : Nat} {v : Value} {d : DataW H} {p : List MemPlace} (hv : Value.okWide Tryz.prog W r b0 23 v) (h : DataW.Trod enc Tryz.prog W base sp held 23 v d p) : ∃ k q : Int, v = .agg #[.int .i64 k, .int .i64 q] := by
  obtain ⟨c0, c1, y0, y1, m, rfl, _, _, h0, h1⟩ := open_agg2 Tryz.underlying23 (by kernel_rfl) cells24 hv h
  obtain ⟨a, e0, _, _⟩ := DataW.trod_int Tryz.underlying3 h0
  obtain ⟨b, e1, _, _⟩ := DataW.trod_int Tryz.underlying3 h1
  simp at e0 e1
  subst e0 e1
  exact ⟨a, b, rfl⟩
theorem opn_flt {r : Reach} {b0 : Nat} {v : Value} {d : DataW H} {p : List MemPlace} (hv : Value.okWide Tryz.prog W r b0 29 v) (h : DataW.Trod enc Tryz.prog W base sp held 29 v d p) : ∃ a : FA, v = a.v ∧ Rd W a.A a.c a.xs := by
  obtain ⟨c0, c1, c2, c3, y0, y1, y2, y3, m, rfl, _, _, h0, h1, h2, h3⟩ := open_agg4 Tryz.underlying29 (by kernel_rfl) cells37 hv h
  obtain ⟨k, e0, _, _⟩ := DataW.trod_int Tryz.underlying25 h0
  obtain ⟨b, e1, _⟩ := DataW.trod_bool Tryz.underlying4 h1
  obtain ⟨e, e2, _, _⟩ := DataW.trod_int Tryz.underlying3 h2
  obtain ⟨A, c, xs, e3, hr⟩ := rd_of_trod Tryz.underlying27 h3
  simp at e0 e1 e2 e3
  subst e0 e1 e2 e3
  exact ⟨⟨k, b, e, A, c, xs⟩, rfl, hr⟩
theorem opn_bool {r : Reach} {b0 : Nat} {v : Value} {d : DataW H} {p : List MemPlace} (hv : Value.okWide Tryz.prog W r b0 4 v) (h : DataW.Trod enc Tryz.prog W base sp held 4 v d p) : ∃ b : Bool, v = .bool b :=
  okWide_bool Tryz.underlying4 hv
end
end Go.Proofs.YtehlmacgjlgjaaaGreatDoor
namespace Go.Proofs.YtehlmacgjlgjaaaGreatDoor
open Go.ChangeShapes Go.WideShapes Go.ChangeAt Go.RowKit Go.Joins
theorem cellsI : Tryz.prog.cellsOf 64 = 2 := by kernel_rfl
section
variable {H : Type} {enc : TypeId × Value → H} {W : World} {base : Nat} {sp : Nat → Bool} {held : Bool}
theorem opn_int {r : Reach} {b0 : Nat} {v : Value} {d : DataW H} {p : List MemPlace} (hv : Value.okWide Tryz.prog W r b0 64 v) (h : DataW.Trod enc Tryz.prog W base sp held 64 v d p) : ∃ b A c xs, v = intV b A xs.length c ∧ Rd W A c xs := by
  obtain ⟨c0, c1, y0, y1, m, rfl, _, _, h0, h1⟩ := open_agg2 Tryz.underlying64 (by kernel_rfl) cellsI hv h
  obtain ⟨b, e0, _⟩ := DataW.trod_bool Tryz.underlying4 h0
  obtain ⟨A, c, xs, e1, hr⟩ := rd_of_trod Tryz.underlying27 h1
  simp at e0 e1
  subst e0 e1
  exact ⟨b, A, c, xs, rfl, hr⟩
end
end Go.Proofs.YtehlmacgjlgjaaaGreatDoor
namespace Go.Proofs.YtehlmacgjlgjaaaGreatDoor
open Go.ChangeShapes Go.WideShapes Go.ChangeAt Go.RowKit Go.Joins
/-- The program's own start meets the condition. -/
theorem door_met2 (os : Os) (args : Array Value) : laidMetH Tryz.prog [("math/bits.deBruijn64tab", Rows.laid_math_bits_deBruijn64tab), ("reckoner/fin.more", Rows.laid_reckoner_fin_more)] ((World.doorLaid Tryz.prog 400 os).forCall (fun _ _ => 0) ⟨#[], args, []⟩).memory :=
  laidMetH_of_parts3 (fuel := 8) (laidMet_of_run' 8 (by kernel_rfl) (by kernel_rfl)) (by kernel_rfl) (by kernel_rfl)
theorem of_laid2 {W : World} (h : laidMetH Tryz.prog [("math/bits.deBruijn64tab", Rows.laid_math_bits_deBruijn64tab), ("reckoner/fin.more", Rows.laid_reckoner_fin_more)] W) : Tab W := by
  have h1 := h.filter (fun x => x.1 == "math/bits.deBruijn64tab")
  rw [show ([("math/bits.deBruijn64tab", Rows.laid_math_bits_deBruijn64tab), ("reckoner/fin.more", Rows.laid_reckoner_fin_more)] : List (String × DataW Unit)).filter (fun x => x.1 == "math/bits.deBruijn64tab") = [("math/bits.deBruijn64tab", Rows.laid_math_bits_deBruijn64tab)] by simp [List.filter]] at h1
  exact of_laid1 h1
end Go.Proofs.YtehlmacgjlgjaaaGreatDoor
