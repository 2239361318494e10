/- How the arguments of chapter 21's laws are opened; the program's own start meets the rows' condition (one table). Opening an integer argument. The program's own start meets the rows' condition where the table of roundings is listed too; what the condition gives. Opening a slice of floats, and a word of sixteen bits. -/
import Derived.Test.YtlnfmngginihfaaGreatDoorS1
import Derived.Test.YtlnfmngginihfaaGreatDoorRows
import Derived.Lib.SmallJoins
import Derived.WalkKit
import Derived.ProofKit
import Derived.OpenShut
import Derived.ShutString
import Derived.ChangeOld
import Derived.LaidMore
import Derived.Stop.Joined
import Derived.Test.YtlnfmngginihfaaGreatDoorU2
import Derived.LaidSub
import Derived.LaidHandle
import Derived.Deep.Slices
set_option linter.unusedVariables false
set_option linter.unusedSimpArgs false
set_option maxRecDepth 100000
namespace Go.Proofs.YtlnfmngginihfaaGreatDoor
open Go.ChangeShapes Go.WideShapes Go.ChangeAt Go.RowKit Go.Joins

theorem own : ownKnob Tryz.prog.godebug = none := by kernel_rfl
theorem laidOut : laidOutB Tryz.prog = true := by kernel_rfl
/-- The program's own start meets the condition. -/
theorem door_met1 (os : Os) (args : Array Value) : laidMetH Tryz.prog [("math/bits.deBruijn64tab", Rows.laid_math_bits_deBruijn64tab)] ((World.doorLaid Tryz.prog 400 os).forCall (fun _ _ => 0) ⟨#[], args, []⟩).memory :=
  laidMetH_of_parts3 (fuel := 8) (laidMet_of_run' 8 (by kernel_rfl) (by kernel_rfl)) (by kernel_rfl) (by kernel_rfl)
theorem tabAt : Tryz.prog.globalNamed "math/bits.deBruijn64tab" = some 0 := by kernel_rfl
theorem tabTy : (Tryz.prog.globals[0]?).map (·.type) = some 142 := by kernel_rfl
theorem bytes_laid1 {H : Type} {enc : TypeId × Value → H} {W : World} {base : Nat} {sp : Nat → Bool} {held : Bool} {fuel n : Nat} {t e : TypeId} {cs : List Value} {p : List MemPlace} {L : List Nat}
    (ht : Tryz.prog.underlying t = some (.array n e)) (he : Tryz.prog.underlying e = some (.int .u8)) (ce : Tryz.prog.cellsOf e = 1)
    (h : DataW.trod enc Tryz.prog W base sp held fuel t cs = some (.agg (L.map fun j : Nat => .lit (.int .u8 j)), p)) : ∀ j, j < L.length → cs[j]? = some (.int .u8 (L.getD j 0 : Nat)) := by
  obtain ⟨xs, m, -, hx, -, hn, hel⟩ := DataW.trod_array ht h
  simp only [Prod.mk.injEq, DataW.agg.injEq] at hx
  intro j hj
  have hlen : L.length = xs.length := by simpa using congrArg List.length hx.1
  have h1 := hel j (by omega)
  rw [ce, Nat.mul_one] at h1
  obtain ⟨x, hxj⟩ : ∃ x, xs[j]? = some x := ⟨_, List.getElem?_eq_getElem (by omega)⟩
  rw [hxj] at h1
  obtain ⟨k, e1, e2, -⟩ := DataW.trod_int he h1
  have h2 : (L.map fun j : Nat => (DataW.lit (.int .u8 j) : DataW H))[j]? = (xs.map fun x => x.fst)[j]? := by rw [hx.1]
  rw [List.getElem?_map, List.getElem?_map, hxj, List.getElem?_eq_getElem hj] at h2
  subst e2
  simp at h2
  rw [List.getD_eq_getElem?_getD, List.getElem?_eq_getElem hj, Option.getD_some]
  rw [h2]
  have h3 := congrArg (fun l : List Value => l[0]?) e1
  simpa using h3
theorem of_laid1 {W : World} (h : laidMetH Tryz.prog [("math/bits.deBruijn64tab", Rows.laid_math_bits_deBruijn64tab)] W) : Tab W := by
  rw [MakeChecks.laidMetH_plain _ _ _ (by kernel_rfl)] at h
  obtain ⟨ps, ⟨g1, t1, cs1, f1, p1, q1, hg1, ht1, hv1, hd1, _, _⟩, _, _⟩ := h
  obtain rfl := Option.some.inj (tabAt.symm.trans hg1)
  obtain rfl := Option.some.inj (tabTy.symm.trans ht1)
  refine ⟨fun j hj => ?_⟩
  have hL : (Rows.laid_math_bits_deBruijn64tab : DataW Unit) = .agg (Lib.deBruijn64tab.map fun j : Nat => .lit (.int .u8 j)) := rfl
  rw [hL] at hd1
  have := World.var?_cell hg1 hv1 j
  rw [this]
  have h2 := bytes_laid1 Tryz.underlying142 Tryz.underlying5 (by kernel_rfl) hd1 j hj
  simpa using h2
theorem cells24 : Tryz.prog.cellsOf 23 = 2 := by kernel_rfl
theorem cells37 : Tryz.prog.cellsOf 40 = 4 := by kernel_rfl
theorem cells64 : Tryz.prog.cellsOf 45 = 1 := by kernel_rfl

section
variable {H : Type} {enc : TypeId × Value → H} {W : World} {base : Nat} {sp : Nat → Bool} {held : Bool}
theorem rd_of_trod {fuel : Nat} {t : TypeId} {cs : List Value} {x : DataW H × List MemPlace} (ht : Tryz.prog.underlying t = some (.slice 45)) (h : DataW.trod enc Tryz.prog W base sp held fuel t cs = some x) :
    ∃ A c xs, cs = [.slice A xs.length c] ∧ Rd W A c xs := by
  rcases open_ints ht Tryz.underlying45 cells64 h with ⟨hcs, _⟩ | ⟨a, l, c, zs, hcs, _, hl, hm, hz, _, hcell, hwz⟩
  · exact ⟨none, 0, [], hcs, Rd.nil _ _ _⟩
  · have hlz : l ≤ zs.length := by rw [hz]; split <;> omega
    have hlen : ((zs.take l).map Int.toNat).length = l := by rw [List.length_map, List.length_take]; omega
    have hb : ∀ n ∈ zs, 0 ≤ n ∧ n ≤ 18446744073709551615 := fun n hn => bounds_u64 (hwz n hn)
    refine ⟨some a, c, (zs.take l).map Int.toNat, by rw [hlen]; exact hcs, ?_⟩
    refine ⟨by omega, by rw [hlen]; simp only [maxLen] at hm; omega, ?_, fun i hi => ⟨a, rfl, ?_⟩⟩
    · intro y hy
      obtain ⟨n, hn, rfl⟩ := List.mem_map.1 hy
      have := hb n (List.mem_of_mem_take hn)
      rw [B_eq]; omega
    · rw [hlen] at hi
      rw [hcell i (by omega)]
      have h1 : i < zs.length := by omega
      have h2 : zs.getD i 0 = zs[i] := by rw [List.getD_eq_getElem?_getD, List.getElem?_eq_getElem h1]; rfl
      have h3 : ((zs.take l).map Int.toNat).getD i 0 = zs[i].toNat := by
        rw [List.getD_eq_getElem?_getD, List.getElem?_map, List.getElem?_take_of_lt hi, List.getElem?_eq_getElem h1]; rfl
      have := hb zs[i] (List.getElem_mem h1)
      rw [h2, h3]
      have e : ((zs[i].toNat : Nat) : Int) = zs[i] := Int.toNat_of_nonneg this.1
      rw [e]
theorem opn_nat {r : Reach} {b0 : Nat} {v : Value} {d : DataW H} {p : List MemPlace} (hv : Value.okWide Tryz.prog W r b0 38 v) (h : DataW.Trod enc Tryz.prog W base sp held 38 v d p) : ∃ A c xs, v = .slice A xs.length c ∧ Rd W A c xs := by
  obtain ⟨a0, len, cap, rfl⟩ := okWide_slice Tryz.underlying38 hv
  obtain ⟨fuel, hf⟩ := h
  obtain ⟨A, c, xs, hcs, hr⟩ := rd_of_trod Tryz.underlying38 hf
  simp [Value.cells] at hcs
  obtain ⟨rfl, rfl, rfl⟩ := hcs
  exact ⟨_, _, xs, rfl, hr⟩
theorem opn_fmt {r : Reach} {b0 : Nat} {v : Value} {d : DataW H} {p : List MemPlace} (hv : Value.okWide Tryz.prog W r b0 23 v) (h : DataW.Trod enc Tryz.prog W base sp held 23 v d p) : ∃ k q : Int, v = .agg #[.int .i64 k, .int .i64 q] := by
  obtain ⟨c0, c1, y0, y1, m, rfl, _, _, h0, h1⟩ := open_agg2 Tryz.underlying23 (by kernel_rfl) cells24 hv h
  obtain ⟨a, e0, _, _⟩ := DataW.trod_int Tryz.underlying3 h0
  obtain ⟨b, e1, _, _⟩ := DataW.trod_int Tryz.underlying3 h1
  simp at e0 e1
  subst e0 e1
  exact ⟨a, b, rfl⟩
theorem opn_flt {r : Reach} {b0 : Nat} {v : Value} {d : DataW H} {p : List MemPlace} (hv : Value.okWide Tryz.prog W r b0 40 v) (h : DataW.Trod enc Tryz.prog W base sp held 40 v d p) : ∃ a : FA, v = a.v ∧ Rd W a.A a.c a.xs := by
  obtain ⟨c0, c1, c2, c3, y0, y1, y2, y3, m, rfl, _, _, h0, h1, h2, h3⟩ := open_agg4 Tryz.underlying40 (by kernel_rfl) cells37 hv h
  obtain ⟨k, e0, _, _⟩ := DataW.trod_int Tryz.underlying36 h0
  obtain ⟨b, e1, _⟩ := DataW.trod_bool Tryz.underlying4 h1
  obtain ⟨e, e2, _, _⟩ := DataW.trod_int Tryz.underlying3 h2
  obtain ⟨A, c, xs, e3, hr⟩ := rd_of_trod Tryz.underlying38 h3
  simp at e0 e1 e2 e3
  subst e0 e1 e2 e3
  exact ⟨⟨k, b, e, A, c, xs⟩, rfl, hr⟩
theorem opn_bool {r : Reach} {b0 : Nat} {v : Value} {d : DataW H} {p : List MemPlace} (hv : Value.okWide Tryz.prog W r b0 4 v) (h : DataW.Trod enc Tryz.prog W base sp held 4 v d p) : ∃ b : Bool, v = .bool b :=
  okWide_bool Tryz.underlying4 hv
end
end Go.Proofs.YtlnfmngginihfaaGreatDoor
namespace Go.Proofs.YtlnfmngginihfaaGreatDoor
open Go.ChangeShapes Go.WideShapes Go.ChangeAt Go.RowKit Go.Joins
theorem cellsI : Tryz.prog.cellsOf 49 = 2 := by kernel_rfl
section
variable {H : Type} {enc : TypeId × Value → H} {W : World} {base : Nat} {sp : Nat → Bool} {held : Bool}
theorem opn_int {r : Reach} {b0 : Nat} {v : Value} {d : DataW H} {p : List MemPlace} (hv : Value.okWide Tryz.prog W r b0 49 v) (h : DataW.Trod enc Tryz.prog W base sp held 49 v d p) : ∃ b A c xs, v = intV b A xs.length c ∧ Rd W A c xs := by
  obtain ⟨c0, c1, y0, y1, m, rfl, _, _, h0, h1⟩ := open_agg2 Tryz.underlying49 (by kernel_rfl) cellsI hv h
  obtain ⟨b, e0, _⟩ := DataW.trod_bool Tryz.underlying4 h0
  obtain ⟨A, c, xs, e1, hr⟩ := rd_of_trod Tryz.underlying38 h1
  simp at e0 e1
  subst e0 e1
  exact ⟨b, A, c, xs, rfl, hr⟩
end
end Go.Proofs.YtlnfmngginihfaaGreatDoor
namespace Go.Proofs.YtlnfmngginihfaaGreatDoor
open Go.ChangeShapes Go.WideShapes Go.ChangeAt Go.RowKit Go.Joins
section
variable {H : Type} {enc : TypeId × Value → H} {W : World} {base : Nat} {sp : Nat → Bool} {held : Bool}
theorem cells36 : Tryz.prog.cellsOf 36 = 1 := by kernel_rfl
theorem cells4 : Tryz.prog.cellsOf 4 = 1 := by kernel_rfl
theorem cells3 : Tryz.prog.cellsOf 3 = 1 := by kernel_rfl
theorem cells38 : Tryz.prog.cellsOf 38 = 1 := by kernel_rfl
instance fa_some : Inhabited FA := ⟨⟨0, false, 0, none, 0, []⟩⟩
theorem opn_fls {r : Reach} {b0 : Nat} {v : Value} {d : DataW H} {p : List MemPlace} (hv : Value.okWide Tryz.prog W r b0 24 v) (h : DataW.Trod enc Tryz.prog W base sp held 24 v d p) :
    ∃ A n c, v = .slice A n c ∧ (n ≤ 1000000 → ∃ l : List FA, l.length = n ∧ FRd W A c l) := by
  obtain ⟨a0, len, cap, rfl⟩ := okWide_slice Tryz.underlying24 hv
  obtain ⟨fuel, hf⟩ := h
  refine ⟨a0, len, cap, rfl, fun hn => ?_⟩
  rcases Go.Deep.open_slice Tryz.underlying24 hf with ⟨hcs, -⟩ | ⟨a, l, c, m, k, D, Pl, hcs, -, hl, hm, hmm, -, hx⟩
  · simp [Value.cells] at hcs
    obtain ⟨rfl, rfl, rfl⟩ := hcs
    exact ⟨[], rfl, ⟨Nat.le_refl _, by simp, fun i hi => absurd hi (by simp)⟩⟩
  · simp [Value.cells] at hcs
    obtain ⟨rfl, rfl, rfl⟩ := hcs
    have hlm : len ≤ m := by rw [hmm]; split <;> omega
    have each : ∀ i, i < len → ∃ q : FA, W.cell? (a.add (i * 4)) = some (.int .i64 q.k) ∧ W.cell? ((a.add (i * 4)).add 1) = some (.bool q.neg) ∧ W.cell? ((a.add (i * 4)).add 2) = some (.int .i64 q.e) ∧
        W.cell? ((a.add (i * 4)).add 3) = some (.slice q.A q.xs.length q.c) ∧ Rd W q.A q.c q.xs := by
      intro i hi
      obtain ⟨cs', h1, h2⟩ := hx i (by omega)
      rw [cells37] at h1
      obtain ⟨_, hlen, hcell⟩ := World.cells?_some h1
      obtain ⟨y0, y1, y2, y3, k, hxy, _, u0, u1, u2, u3⟩ := Joins.trod_struct4 Tryz.underlying40 h2
      match cs', hlen with
      | [v0, v1, v2, v3], _ =>
        obtain ⟨k, e0, _, _⟩ := DataW.trod_int Tryz.underlying36 u0
        obtain ⟨b, e1, _⟩ := DataW.trod_bool Tryz.underlying4 u1
        obtain ⟨e, e2, _, _⟩ := DataW.trod_int Tryz.underlying3 u2
        obtain ⟨A, c, xs, e3, hr⟩ := rd_of_trod Tryz.underlying38 u3
        simp [cells36] at e0
        simp [cells4] at e1
        simp [cells3] at e2
        simp [cells38] at e3
        subst e0 e1 e2 e3
        have c0 := hcell 0 (by omega)
        have c1 := hcell 1 (by omega)
        have c2 := hcell 2 (by omega)
        have c3 := hcell 3 (by omega)
        rw [show (a.add (i * 4)).add 0 = a.add (i * 4) by rw [Go.Deep.add_add, Nat.add_zero]] at c0
        exact ⟨⟨k, b, e, A, c, xs⟩, c0, c1, c2, c3, hr⟩
    obtain ⟨q, hq⟩ := Go.Deep.choose_lt each
    refine ⟨(List.range len).map q, by simp, by simpa using hl, by simpa using hn, fun i hi => ?_⟩
    have hi' : i < len := by simpa using hi
    have e : ((List.range len).map q)[i] = q i := by simp
    rw [e]
    obtain ⟨c0, c1, c2, c3, hr⟩ := hq i hi'
    have ea : ∀ t, 0 < t → (a.add (i * 4)).add t = ⟨(a.add (i * 4)).block, (a.add (i * 4)).off + t, none⟩ := fun t ht => by
      unfold Addr.add
      simp [show ¬ t = 0 by omega]
    rw [ea 1 (by omega)] at c1
    rw [ea 2 (by omega)] at c2
    rw [ea 3 (by omega)] at c3
    exact ⟨a, rfl, c0, c1, c2, c3, hr⟩
theorem opn_u16 {r : Reach} {b0 : Nat} {v : Value} {d : DataW H} {p : List MemPlace} (hv : Value.okWide Tryz.prog W r b0 25 v) (h : DataW.Trod enc Tryz.prog W base sp held 25 v d p) : ∃ m : Nat, v = .int .u16 (m : Int) ∧ m < 65536 := by
  obtain ⟨n, rfl⟩ := okWide_int Tryz.underlying25 hv
  obtain ⟨fuel, hf⟩ := h
  obtain ⟨k, e0, _, hw⟩ := DataW.trod_int Tryz.underlying25 hf
  simp [Value.cells] at e0
  subst e0
  have hb : 0 ≤ n ∧ n ≤ 65535 := by
    simp [Lit.wf, IntKind.min, IntKind.max, IntKind.signed, IntKind.bits] at hw
    omega
  exact ⟨n.toNat, by rw [Int.toNat_of_nonneg hb.1], by omega⟩
end
end Go.Proofs.YtlnfmngginihfaaGreatDoor
