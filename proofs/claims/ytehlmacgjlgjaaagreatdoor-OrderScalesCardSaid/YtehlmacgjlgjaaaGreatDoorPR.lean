/- OrderScales: for every input the law returns true, and its arguments read as before: the row, and its tied card. No condition beyond what the card lists (the two package-level variables hold what the program's text lays). -/
import Derived.Test.YtehlmacgjlgjaaaGreatDoorS1
import Derived.Test.YtehlmacgjlgjaaaGreatDoorRows
import Derived.Lib.SmallJoins
import Derived.WalkKit
import Derived.ProofKit
import Derived.OpenShut
import Derived.ShutString
import Derived.ChangeOld
import Derived.LaidMore
import Derived.Stop.Joined
import Derived.Test.YtehlmacgjlgjaaaGreatDoorU1
import Derived.LaidSub
import Derived.LaidHandle
import Derived.Test.YtehlmacgjlgjaaaGreatDoorN3
import Derived.Test.YtehlmacgjlgjaaaGreatDoorLS
import Derived.Test.YtehlmacgjlgjaaaGreatDoorCards
import Derived.Test.YtehlmacgjlgjaaaGreatDoorTie
import Derived.SevenTiedAt
set_option linter.unusedVariables false
set_option linter.unusedSimpArgs false
set_option maxRecDepth 100000
namespace Go.Proofs.YtehlmacgjlgjaaaGreatDoor
open Go.ChangeShapes Go.WideShapes Go.ChangeAt Go.RowKit Go.Joins

theorem own : ownKnob Tryz.prog.godebug = none := by kernel_rfl
theorem laidOut : laidOutB Tryz.prog = true := by kernel_rfl
/-- The program's own start meets the condition. -/
theorem door_met1 (os : Os) (args : Array Value) : laidMetH Tryz.prog [("math/bits.deBruijn64tab", Rows.laid_math_bits_deBruijn64tab)] ((World.doorLaid Tryz.prog 400 os).forCall (fun _ _ => 0) ⟨#[], args, []⟩).memory :=
  laidMetH_of_parts3 (fuel := 8) (laidMet_of_run' 8 (by kernel_rfl) (by kernel_rfl)) (by kernel_rfl) (by kernel_rfl)
theorem tabAt : Tryz.prog.globalNamed "math/bits.deBruijn64tab" = some 1 := by kernel_rfl
theorem tabTy : (Tryz.prog.globals[1]?).map (·.type) = some 173 := by kernel_rfl
theorem bytes_laid1 {H : Type} {enc : TypeId × Value → H} {W : World} {base : Nat} {sp : Nat → Bool} {held : Bool} {fuel n : Nat} {t e : TypeId} {cs : List Value} {p : List MemPlace} {L : List Nat}
    (ht : Tryz.prog.underlying t = some (.array n e)) (he : Tryz.prog.underlying e = some (.int .u8)) (ce : Tryz.prog.cellsOf e = 1)
    (h : DataW.trod enc Tryz.prog W base sp held fuel t cs = some (.agg (L.map fun j : Nat => .lit (.int .u8 j)), p)) : ∀ j, j < L.length → cs[j]? = some (.int .u8 (L.getD j 0 : Nat)) := by
  obtain ⟨xs, m, -, hx, -, hn, hel⟩ := DataW.trod_array ht h
  simp only [Prod.mk.injEq, DataW.agg.injEq] at hx
  intro j hj
  have hlen : L.length = xs.length := by simpa using congrArg List.length hx.1
  have h1 := hel j (by omega)
  rw [ce, Nat.mul_one] at h1
  obtain ⟨x, hxj⟩ : ∃ x, xs[j]? = some x := ⟨_, List.getElem?_eq_getElem (by omega)⟩
  rw [hxj] at h1
  obtain ⟨k, e1, e2, -⟩ := DataW.trod_int he h1
  have h2 : (L.map fun j : Nat => (DataW.lit (.int .u8 j) : DataW H))[j]? = (xs.map fun x => x.fst)[j]? := by rw [hx.1]
  rw [List.getElem?_map, List.getElem?_map, hxj, List.getElem?_eq_getElem hj] at h2
  subst e2
  simp at h2
  rw [List.getD_eq_getElem?_getD, List.getElem?_eq_getElem hj, Option.getD_some]
  rw [h2]
  have h3 := congrArg (fun l : List Value => l[0]?) e1
  simpa using h3
theorem of_laid1 {W : World} (h : laidMetH Tryz.prog [("math/bits.deBruijn64tab", Rows.laid_math_bits_deBruijn64tab)] W) : Tab W := by
  rw [MakeChecks.laidMetH_plain _ _ _ (by kernel_rfl)] at h
  obtain ⟨ps, ⟨g1, t1, cs1, f1, p1, q1, hg1, ht1, hv1, hd1, _, _⟩, _, _⟩ := h
  obtain rfl := Option.some.inj (tabAt.symm.trans hg1)
  obtain rfl := Option.some.inj (tabTy.symm.trans ht1)
  refine ⟨fun j hj => ?_⟩
  have hL : (Rows.laid_math_bits_deBruijn64tab : DataW Unit) = .agg (Lib.deBruijn64tab.map fun j : Nat => .lit (.int .u8 j)) := rfl
  rw [hL] at hd1
  have := World.var?_cell hg1 hv1 j
  rw [this]
  have h2 := bytes_laid1 Tryz.underlying173 Tryz.underlying5 (by kernel_rfl) hd1 j hj
  simpa using h2
theorem cells24 : Tryz.prog.cellsOf 23 = 2 := by kernel_rfl
theorem cells37 : Tryz.prog.cellsOf 29 = 4 := by kernel_rfl
theorem cells64 : Tryz.prog.cellsOf 60 = 1 := by kernel_rfl

section
variable {H : Type} {enc : TypeId × Value → H} {W : World} {base : Nat} {sp : Nat → Bool} {held : Bool}
theorem rd_of_trod {fuel : Nat} {t : TypeId} {cs : List Value} {x : DataW H × List MemPlace} (ht : Tryz.prog.underlying t = some (.slice 60)) (h : DataW.trod enc Tryz.prog W base sp held fuel t cs = some x) :
    ∃ A c xs, cs = [.slice A xs.length c] ∧ Rd W A c xs := by
  rcases open_ints ht Tryz.underlying60 cells64 h with ⟨hcs, _⟩ | ⟨a, l, c, zs, hcs, _, hl, hm, hz, _, hcell, hwz⟩
  · exact ⟨none, 0, [], hcs, Rd.nil _ _ _⟩
  · have hlz : l ≤ zs.length := by rw [hz]; split <;> omega
    have hlen : ((zs.take l).map Int.toNat).length = l := by rw [List.length_map, List.length_take]; omega
    have hb : ∀ n ∈ zs, 0 ≤ n ∧ n ≤ 18446744073709551615 := fun n hn => bounds_u64 (hwz n hn)
    refine ⟨some a, c, (zs.take l).map Int.toNat, by rw [hlen]; exact hcs, ?_⟩
    refine ⟨by omega, by rw [hlen]; simp only [maxLen] at hm; omega, ?_, fun i hi => ⟨a, rfl, ?_⟩⟩
    · intro y hy
      obtain ⟨n, hn, rfl⟩ := List.mem_map.1 hy
      have := hb n (List.mem_of_mem_take hn)
      rw [B_eq]; omega
    · rw [hlen] at hi
      rw [hcell i (by omega)]
      have h1 : i < zs.length := by omega
      have h2 : zs.getD i 0 = zs[i] := by rw [List.getD_eq_getElem?_getD, List.getElem?_eq_getElem h1]; rfl
      have h3 : ((zs.take l).map Int.toNat).getD i 0 = zs[i].toNat := by
        rw [List.getD_eq_getElem?_getD, List.getElem?_map, List.getElem?_take_of_lt hi, List.getElem?_eq_getElem h1]; rfl
      have := hb zs[i] (List.getElem_mem h1)
      rw [h2, h3]
      have e : ((zs[i].toNat : Nat) : Int) = zs[i] := Int.toNat_of_nonneg this.1
      rw [e]
theorem opn_nat {r : Reach} {b0 : Nat} {v : Value} {d : DataW H} {p : List MemPlace} (hv : Value.okWide Tryz.prog W r b0 27 v) (h : DataW.Trod enc Tryz.prog W base sp held 27 v d p) : ∃ A c xs, v = .slice A xs.length c ∧ Rd W A c xs := by
  obtain ⟨a0, len, cap, rfl⟩ := okWide_slice Tryz.underlying27 hv
  obtain ⟨fuel, hf⟩ := h
  obtain ⟨A, c, xs, hcs, hr⟩ := rd_of_trod Tryz.underlying27 hf
  simp [Value.cells] at hcs
  obtain ⟨rfl, rfl, rfl⟩ := hcs
  exact ⟨_, _, xs, rfl, hr⟩
theorem opn_fmt {r : Reach} {b0 : Nat} {v : Value} {d : DataW H} {p : List MemPlace} (hv : Value.okWide Tryz.prog W r b0 23 v) (h : DataW.Trod enc Tryz.prog W base sp held 23 v d p) : ∃ k q : Int, v = .agg #[.int .i64 k, .int .i64 q] := by
  obtain ⟨c0, c1, y0, y1, m, rfl, _, _, h0, h1⟩ := open_agg2 Tryz.underlying23 (by kernel_rfl) cells24 hv h
  obtain ⟨a, e0, _, _⟩ := DataW.trod_int Tryz.underlying3 h0
  obtain ⟨b, e1, _, _⟩ := DataW.trod_int Tryz.underlying3 h1
  simp at e0 e1
  subst e0 e1
  exact ⟨a, b, rfl⟩
theorem opn_flt {r : Reach} {b0 : Nat} {v : Value} {d : DataW H} {p : List MemPlace} (hv : Value.okWide Tryz.prog W r b0 29 v) (h : DataW.Trod enc Tryz.prog W base sp held 29 v d p) : ∃ a : FA, v = a.v ∧ Rd W a.A a.c a.xs := by
  obtain ⟨c0, c1, c2, c3, y0, y1, y2, y3, m, rfl, _, _, h0, h1, h2, h3⟩ := open_agg4 Tryz.underlying29 (by kernel_rfl) cells37 hv h
  obtain ⟨k, e0, _, _⟩ := DataW.trod_int Tryz.underlying25 h0
  obtain ⟨b, e1, _⟩ := DataW.trod_bool Tryz.underlying4 h1
  obtain ⟨e, e2, _, _⟩ := DataW.trod_int Tryz.underlying3 h2
  obtain ⟨A, c, xs, e3, hr⟩ := rd_of_trod Tryz.underlying27 h3
  simp at e0 e1 e2 e3
  subst e0 e1 e2 e3
  exact ⟨⟨k, b, e, A, c, xs⟩, rfl, hr⟩
theorem opn_bool {r : Reach} {b0 : Nat} {v : Value} {d : DataW H} {p : List MemPlace} (hv : Value.okWide Tryz.prog W r b0 4 v) (h : DataW.Trod enc Tryz.prog W base sp held 4 v d p) : ∃ b : Bool, v = .bool b :=
  okWide_bool Tryz.underlying4 hv
end
end Go.Proofs.YtehlmacgjlgjaaaGreatDoor
namespace Go.Proofs.YtehlmacgjlgjaaaGreatDoor
open Go.ChangeShapes Go.WideShapes Go.ChangeAt Go.RowKit Go.Joins
theorem cellsI : Tryz.prog.cellsOf 64 = 2 := by kernel_rfl
section
variable {H : Type} {enc : TypeId × Value → H} {W : World} {base : Nat} {sp : Nat → Bool} {held : Bool}
theorem opn_int {r : Reach} {b0 : Nat} {v : Value} {d : DataW H} {p : List MemPlace} (hv : Value.okWide Tryz.prog W r b0 64 v) (h : DataW.Trod enc Tryz.prog W base sp held 64 v d p) : ∃ b A c xs, v = intV b A xs.length c ∧ Rd W A c xs := by
  obtain ⟨c0, c1, y0, y1, m, rfl, _, _, h0, h1⟩ := open_agg2 Tryz.underlying64 (by kernel_rfl) cellsI hv h
  obtain ⟨b, e0, _⟩ := DataW.trod_bool Tryz.underlying4 h0
  obtain ⟨A, c, xs, e1, hr⟩ := rd_of_trod Tryz.underlying27 h1
  simp at e0 e1
  subst e0 e1
  exact ⟨b, A, c, xs, rfl, hr⟩
end
end Go.Proofs.YtehlmacgjlgjaaaGreatDoor
namespace Go.Proofs.YtehlmacgjlgjaaaGreatDoor
open Go.ChangeShapes Go.WideShapes Go.ChangeAt Go.RowKit Go.Joins
/-- The program's own start meets the condition. -/
theorem door_met2 (os : Os) (args : Array Value) : laidMetH Tryz.prog [("math/bits.deBruijn64tab", Rows.laid_math_bits_deBruijn64tab), ("reckoner/fin.more", Rows.laid_reckoner_fin_more)] ((World.doorLaid Tryz.prog 400 os).forCall (fun _ _ => 0) ⟨#[], args, []⟩).memory :=
  laidMetH_of_parts3 (fuel := 8) (laidMet_of_run' 8 (by kernel_rfl) (by kernel_rfl)) (by kernel_rfl) (by kernel_rfl)
theorem of_laid2 {W : World} (h : laidMetH Tryz.prog [("math/bits.deBruijn64tab", Rows.laid_math_bits_deBruijn64tab), ("reckoner/fin.more", Rows.laid_reckoner_fin_more)] W) : Tab W := by
  have h1 := h.filter (fun x => x.1 == "math/bits.deBruijn64tab")
  rw [show ([("math/bits.deBruijn64tab", Rows.laid_math_bits_deBruijn64tab), ("reckoner/fin.more", Rows.laid_reckoner_fin_more)] : List (String × DataW Unit)).filter (fun x => x.1 == "math/bits.deBruijn64tab") = [("math/bits.deBruijn64tab", Rows.laid_math_bits_deBruijn64tab)] by simp [List.filter]] at h1
  exact of_laid1 h1
end Go.Proofs.YtehlmacgjlgjaaaGreatDoor
namespace Go.Proofs.YtehlmacgjlgjaaaGreatDoor
open Go.ChangeShapes Go.WideShapes Go.ChangeAt Go.RowKit Go.Joins

theorem moreAt : Tryz.prog.globalNamed "reckoner/fin.more" = some 0 := by kernel_rfl
theorem moreTy : (Tryz.prog.globals[0]?).map (·.type) = some 143 := by kernel_rfl
theorem cellsF : Tryz.prog.cellsOf 142 = 1 := by kernel_rfl
theorem cells5 : Tryz.prog.cellsOf 143 = 5 := by kernel_rfl
theorem five {α : Type} {l : List α} (h : l.length = 5) : ∃ a b c d e, l = [a, b, c, d, e] := by
  match l, h with
  | [a, b, c, d, e], _ => exact ⟨a, b, c, d, e, rfl⟩
theorem of_more {W : World} (h : laidMetH Tryz.prog [("math/bits.deBruijn64tab", Rows.laid_math_bits_deBruijn64tab), ("reckoner/fin.more", Rows.laid_reckoner_fin_more)] W) : MoreT W := by
  obtain ⟨g, t, cs, fuel, p, hg, ht, hv, hd⟩ := h.funcs (n := "reckoner/fin.more") (List.mem_cons_of_mem _ (List.mem_singleton.2 rfl))
  obtain rfl := Option.some.inj (moreAt.symm.trans hg)
  obtain rfl := Option.some.inj (moreTy.symm.trans ht)
  have hd' : DataW.trod (funcToken Tryz.prog) Tryz.prog W 0 (fun _ => true) true fuel 143 cs.toList = some (.agg [.held [114, 101, 99, 107, 111, 110, 101, 114, 47, 102, 105, 110, 46, 109, 111, 114, 101, 36, 49], .held [114, 101, 99, 107, 111, 110, 101, 114, 47, 102, 105, 110, 46, 109, 111, 114, 101, 36, 50], .held [114, 101, 99, 107, 111, 110, 101, 114, 47, 102, 105, 110, 46, 109, 111, 114, 101, 36, 51], .held [114, 101, 99, 107, 111, 110, 101, 114, 47, 102, 105, 110, 46, 109, 111, 114, 101, 36, 52], .held [114, 101, 99, 107, 111, 110, 101, 114, 47, 102, 105, 110, 46, 109, 111, 114, 101, 36, 53]], p) := hd
  obtain ⟨xs, m, -, hx, hl, hn, hel⟩ := DataW.trod_array Tryz.underlying143 hd'
  rw [cells5] at hl
  obtain ⟨c0, c1, c2, c3, c4, hcs⟩ := five hl
  obtain ⟨x0, x1, x2, x3, x4, rfl⟩ := five hn
  simp only [Prod.mk.injEq, DataW.agg.injEq, List.map_cons, List.map_nil, List.cons.injEq, and_true] at hx
  obtain ⟨⟨e0, e1, e2, e3, e4⟩, -⟩ := hx
  have k0 := hel 0 (by omega)
  have k1 := hel 1 (by omega)
  have k2 := hel 2 (by omega)
  have k3 := hel 3 (by omega)
  have k4 := hel 4 (by omega)
  rw [cellsF, hcs] at k0 k1 k2 k3 k4
  have j0 : DataW.trod (funcToken Tryz.prog) Tryz.prog W 0 (fun _ => true) true m 142 [c0] = some x0 := k0
  have j1 : DataW.trod (funcToken Tryz.prog) Tryz.prog W 0 (fun _ => true) true m 142 [c1] = some x1 := k1
  have j2 : DataW.trod (funcToken Tryz.prog) Tryz.prog W 0 (fun _ => true) true m 142 [c2] = some x2 := k2
  have j3 : DataW.trod (funcToken Tryz.prog) Tryz.prog W 0 (fun _ => true) true m 142 [c3] = some x3 := k3
  have j4 : DataW.trod (funcToken Tryz.prog) Tryz.prog W 0 (fun _ => true) true m 142 [c4] = some x4 := k4
  obtain ⟨y0, q0⟩ := x0
  obtain ⟨y1, q1⟩ := x1
  obtain ⟨y2, q2⟩ := x2
  obtain ⟨y3, q3⟩ := x3
  obtain ⟨y4, q4⟩ := x4
  simp only at e0 e1 e2 e3 e4
  subst e0 e1 e2 e3 e4
  obtain rfl := func_of_trod (f0 := 189) Tryz.underlying142 (by kernel_rfl) j0
  obtain rfl := func_of_trod (f0 := 190) Tryz.underlying142 (by kernel_rfl) j1
  obtain rfl := func_of_trod (f0 := 191) Tryz.underlying142 (by kernel_rfl) j2
  obtain rfl := func_of_trod (f0 := 192) Tryz.underlying142 (by kernel_rfl) j3
  obtain rfl := func_of_trod (f0 := 193) Tryz.underlying142 (by kernel_rfl) j4
  have hcell := fun i => World.var?_cell hg hv i
  have hget : ∀ i : Nat, cs[i]? = cs.toList[i]? := fun i => (Array.getElem?_toList ..).symm
  refine ⟨?_, ?_, ?_, ?_, ?_⟩
  · rw [hcell 0, hget, hcs]; rfl
  · rw [hcell 1, hget, hcs]; rfl
  · rw [hcell 2, hget, hcs]; rfl
  · rw [hcell 3, hget, hcs]; rfl
  · rw [hcell 4, hget, hcs]; rfl
end Go.Proofs.YtehlmacgjlgjaaaGreatDoor
namespace Go.Proofs.YtehlmacgjlgjaaaGreatDoor
open Go.ChangeShapes Go.WideShapes Go.ChangeAt Go.RowKit

set_option maxRecDepth 100000 in
theorem orderScales_lifted (os : Os) (started : os.Started) (H : Type) (enc : TypeId × Value → H) :
    ReturnsInHanded {} Tryz.checked os 3 .any (fun w args => (Rows.orderScalesSpec.pre enc Tryz.prog Tryz.f3 [] false w args ∧ laidMetH Tryz.prog [("math/bits.deBruijn64tab", Rows.laid_math_bits_deBruijn64tab), ("reckoner/fin.more", Rows.laid_reckoner_fin_more)] w) ∧ sizedMet enc Tryz.prog Tryz.f3 (OpenSpec.ofChange Rows.orderScalesSpec) false w args)
      (Rows.orderScalesSpec.post enc Tryz.prog Tryz.f3 false true false false) := by
  refine returnsInHanded_of_change_and (C := Tryz.checked) (X := fun w _ => laidMetH Tryz.prog _ w) (fun _ _ _ hh h => h.of_heap hh) own started (by kernel_rfl) Tryz.func3
    (ChangeSpec.witness_shaped (enc := enc) (C := Tryz.checked) (os := os) (X := fun w _ => laidMetH Tryz.prog _ w) false (World.doorLaid Tryz.prog 400 os) #[.agg #[.int .i64 0, .int .i64 0], .int .i64 0, .agg #[.int .i64 0, .bool false, .int .i64 0, .slice none 0 0], .int .i64 0] 8 rfl (World.shaped_of_RefB (by kernel_rfl) (by kernel_rfl)) (by kernel_rfl) (by kernel_rfl) (by kernel_rfl) (door_met2 os _)) ?_
  intro W base args ds gs before hval0 hW _ _ hL _
  have hval : ∀ (j : Nat) t v, Tryz.f3.params[j]? = some t → args[j]? = some v → Value.okWide Tryz.prog W .any base t v := hval0
  have hW' := hW
  obtain ⟨p, q, hA0, hV, rfl, hfz, hnd⟩ := hW
  have hA : DataW.TrodAll enc Tryz.prog W 0 (fun _ => true) true Tryz.f3.params.toList args.toList ds p := hA0
  rw [Tryz.params3] at hA hval
  obtain ⟨v0, vs0, d0, ds0, p0, q0, hargs, rfl, rfl, h0, r0⟩ := trodAll_cons hA
  obtain ⟨v1, vs1, d1, ds1, p1, q1, rfl, rfl, rfl, h1, r1⟩ := trodAll_cons r0
  obtain ⟨v2, vs2, d2, ds2, p2, q2, rfl, rfl, rfl, h2, r2⟩ := trodAll_cons r1
  obtain ⟨v3, vs3, d3, ds3, p3, q3, rfl, rfl, rfl, h3, r3⟩ := trodAll_cons r2
  obtain ⟨rfl, rfl, rfl⟩ := trodAll_nil r3
  obtain rfl : args = #[v0, v1, v2, v3] := by cases args; simp_all
  obtain ⟨rfl, rfl⟩ := trodVars_none hV
  have k0 := h0
  have lt0 : ∀ x ∈ p0, x.block < W.heap.size := by obtain ⟨m, hm⟩ := k0; exact DataW.trod_lt m _ _ _ hm
  have k1 := h1
  have lt1 : ∀ x ∈ p1, x.block < W.heap.size := by obtain ⟨m, hm⟩ := k1; exact DataW.trod_lt m _ _ _ hm
  have k2 := h2
  have lt2 : ∀ x ∈ p2, x.block < W.heap.size := by obtain ⟨m, hm⟩ := k2; exact DataW.trod_lt m _ _ _ hm
  have k3 := h3
  have lt3 : ∀ x ∈ p3, x.block < W.heap.size := by obtain ⟨m, hm⟩ := k3; exact DataW.trod_lt m _ _ _ hm
  obtain ⟨a0, b0, rfl⟩ := opn_fmt (hval 0 23 v0 rfl rfl) h0
  obtain ⟨i1, rfl⟩ := okWide_int Tryz.underlying24 (hval 1 24 v1 rfl rfl)
  obtain ⟨a2, rfl, w2⟩ := opn_flt (hval 2 29 v2 rfl rfl) h2
  obtain ⟨i3, rfl⟩ := okWide_int Tryz.underlying3 (hval 3 3 v3 rfl rfl)
  have hT := of_laid2 hL
  have hM := of_more hL
  clear hA0 hval0
  refine (orderScales_w a0 b0 i1 a2 i3 W hT hM w2).mono fun e W' ⟨he, bel⟩ => ?_
  subst he
  exact ⟨_, rfl, _, _, _, [], _, [], hW', trodAll_mk1 (shut_bool Tryz.underlying4 _), (trodAll_cons_mk (Below.trod laidOut (by kernel_rfl) (of_decide_eq_true (by kernel_rfl)) k0 bel lt0) (trodAll_cons_mk (Below.trod laidOut (by kernel_rfl) (of_decide_eq_true (by kernel_rfl)) k1 bel lt1) (trodAll_cons_mk (Below.trod laidOut (by kernel_rfl) (of_decide_eq_true (by kernel_rfl)) k2 bel lt2) (trodAll_cons_mk (Below.trod laidOut (by kernel_rfl) (of_decide_eq_true (by kernel_rfl)) k3 bel lt3) trodAll_mk0)))), rfl, bel.frame _, fun h => by cases h⟩

theorem orderScales_said : Rows.OrderScalesSaid :=
  OpenClaim.holds_of_wide 3 Tryz.f3 rfl rfl rfl rfl rfl rfl rfl ⟨rfl, rfl, rfl, rfl, rfl⟩ rfl rfl rfl rfl rfl (by kernel_rfl) Tryz.func3 (by kernel_rfl)
    (of_decide_eq_true (by kernel_rfl)) (by unfold Func.isWrapper; first | (rw [if_pos (by decide +kernel)]; kernel_rfl) | (rw [if_neg (by decide +kernel)]; exact ⟨rfl, rfl⟩))
    (fun os started H enc _ => orderScales_lifted os started H enc)
theorem OrderScales_card : Rows.OrderScalesCardSaid :=
  Claim7.holds_tied_plain_at .later [] [.data, .funcs] true (true, "1eb53f8279e37ce4bb349243012a5eef7372f1caf026a1665b944769508798f3") false
    orderScales_said (fun _ h => by cases h) (by kernel_rfl) (fun _ h => by cases h) orderScales_row_tie rfl ⟨rfl, rfl⟩ (by kernel_rfl) rfl
    (fun f fn hf hfn => by
      obtain rfl : f = 3 := Option.some.inj ((show Tryz.prog.funcNamed "reckoner/reckonerlaw21.OrderScales" = some 3 by kernel_rfl).symm.trans hf) |>.symm
      obtain rfl : fn = Tryz.f3 := (Option.some.inj (Tryz.func3.symm.trans hfn)).symm
      exact ⟨by kernel_rfl, fun j t ht => by
        rw [Tryz.params3] at ht
        have hm : t ∈ [23, 24, 29, 3] := by have := Array.mem_of_getElem? ht; simp at this; simp; omega
        have hall : ([23, 24, 29, 3].all fun u => !Tryz.prog.wantsStandIn u) = true := by kernel_rfl
        exact (show Tryz.prog.wantsStandIn t = false by simpa using List.all_eq_true.1 hall t hm)⟩)
    (by kernel_rfl)
#print axioms OrderScales_card
end Go.Proofs.YtehlmacgjlgjaaaGreatDoor
