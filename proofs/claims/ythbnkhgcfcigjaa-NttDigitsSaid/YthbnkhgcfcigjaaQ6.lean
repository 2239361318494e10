/- How the laws' arguments are opened (rows without package variables). -/
import Derived.Test.YthbnkhgcfcigjaaB0
import Derived.Test.YthbnkhgcfcigjaaRows
import Derived.Lib.SmallJoins
import Derived.WalkKit
import Derived.ProofKit
import Derived.OpenShut
import Derived.ShutString
import Derived.ChangeOld
import Derived.LaidMore
import Derived.Stop.Joined
import Derived.SevenTiedAt
set_option linter.unusedVariables false
set_option linter.unusedSimpArgs false
set_option maxRecDepth 100000
namespace Go.Proofs.Ythbnkhgcfcigjaa
open Go.ChangeShapes Go.WideShapes Go.ChangeAt Go.RowKit Go.Joins

theorem own : ownKnob Try.prog.godebug = none := by kernel_rfl
theorem laidOut : laidOutB Try.prog = true := by kernel_rfl
theorem cells2i : Try.prog.cellsOf 39 = 2 := by kernel_rfl
theorem cellsInt : Try.prog.cellsOf 3 = 1 := by kernel_rfl
theorem cells64 : Try.prog.cellsOf 22 = 1 := by kernel_rfl

section
variable {H : Type} {enc : TypeId × Value → H} {W : World} {base : Nat} {sp : Nat → Bool} {held : Bool}
theorem rd_of_trod {fuel : Nat} {t : TypeId} {cs : List Value} {x : DataW H × List MemPlace} (ht : Try.prog.underlying t = some (.slice 22)) (h : DataW.trod enc Try.prog W base sp held fuel t cs = some x) :
    ∃ A c xs, cs = [.slice A xs.length c] ∧ Rd W A c xs := by
  rcases open_ints ht Try.underlying22 cells64 h with ⟨hcs, _⟩ | ⟨a, l, c, zs, hcs, _, hl, hm, hz, _, hcell, hwz⟩
  · exact ⟨none, 0, [], hcs, Rd.nil _ _ _⟩
  · have hlz : l ≤ zs.length := by rw [hz]; split <;> omega
    have hlen : ((zs.take l).map Int.toNat).length = l := by rw [List.length_map, List.length_take]; omega
    have hb : ∀ n ∈ zs, 0 ≤ n ∧ n ≤ 18446744073709551615 := fun n hn => bounds_u64 (hwz n hn)
    refine ⟨some a, c, (zs.take l).map Int.toNat, by rw [hlen]; exact hcs, ?_⟩
    refine ⟨by omega, by rw [hlen]; simp only [maxLen] at hm; omega, ?_, fun i hi => ⟨a, rfl, ?_⟩⟩
    · intro y hy
      obtain ⟨n, hn, rfl⟩ := List.mem_map.1 hy
      have := hb n (List.mem_of_mem_take hn)
      rw [B_eq]; omega
    · rw [hlen] at hi
      rw [hcell i (by omega)]
      have h1 : i < zs.length := by omega
      have h2 : zs.getD i 0 = zs[i] := by rw [List.getD_eq_getElem?_getD, List.getElem?_eq_getElem h1]; rfl
      have h3 : ((zs.take l).map Int.toNat).getD i 0 = zs[i].toNat := by
        rw [List.getD_eq_getElem?_getD, List.getElem?_map, List.getElem?_take_of_lt hi, List.getElem?_eq_getElem h1]; rfl
      have := hb zs[i] (List.getElem_mem h1)
      rw [h2, h3]
      have e : ((zs[i].toNat : Nat) : Int) = zs[i] := Int.toNat_of_nonneg this.1
      rw [e]
theorem opn_nat {r : Reach} {b0 : Nat} {v : Value} {d : DataW H} {p : List MemPlace} (hv : Value.okWide Try.prog W r b0 38 v) (h : DataW.Trod enc Try.prog W base sp held 38 v d p) : ∃ A c xs, v = .slice A xs.length c ∧ Rd W A c xs := by
  obtain ⟨a0, len, cap, rfl⟩ := okWide_slice Try.underlying38 hv
  obtain ⟨fuel, hf⟩ := h
  obtain ⟨A, c, xs, hcs, hr⟩ := rd_of_trod Try.underlying38 hf
  simp [Value.cells] at hcs
  obtain ⟨rfl, rfl, rfl⟩ := hcs
  exact ⟨_, _, xs, rfl, hr⟩
theorem opn_words {r : Reach} {b0 : Nat} {v : Value} {d : DataW H} {p : List MemPlace} (hv : Value.okWide Try.prog W r b0 30 v) (h : DataW.Trod enc Try.prog W base sp held 30 v d p) : ∃ A c xs, v = .slice A xs.length c ∧ Rd W A c xs := by
  obtain ⟨a0, len, cap, rfl⟩ := okWide_slice Try.underlying30 hv
  obtain ⟨fuel, hf⟩ := h
  obtain ⟨A, c, xs, hcs, hr⟩ := rd_of_trod Try.underlying30 hf
  simp [Value.cells] at hcs
  obtain ⟨rfl, rfl, rfl⟩ := hcs
  exact ⟨_, _, xs, rfl, hr⟩
theorem opn_word {r : Reach} {b0 : Nat} {v : Value} (hv : Value.okWide Try.prog W r b0 22 v) : ∃ n : Nat, v = .int .u64 (n : Int) ∧ n < B := by
  have hv2 := hv
  obtain ⟨n, rfl⟩ := okWide_int Try.underlying22 hv
  simp [Value.okWide, Try.underlying22, Cell.okWide, Cell.ok, IntKind.has] at hv2
  have m0 : IntKind.u64.min = 0 := rfl
  have m1 : IntKind.u64.max = 18446744073709551615 := rfl
  rw [m0, m1] at hv2
  exact ⟨n.toNat, by rw [Int.toNat_of_nonneg hv2.1], by rw [B_eq]; omega⟩
theorem opn_pair {r : Reach} {b0 : Nat} {v : Value} {d : DataW H} {p : List MemPlace} (hv : Value.okWide Try.prog W r b0 39 v) (h : DataW.Trod enc Try.prog W base sp held 39 v d p) : ∃ s t : Int, v = .agg #[.int .i64 s, .int .i64 t] := by
  simp only [Value.okWide, Try.underlying39] at hv
  obtain ⟨cs, rfl, hsz, _⟩ := hv
  obtain ⟨c0, c1, rfl⟩ := array2 (hsz.trans cells2i)
  obtain ⟨fuel, hf⟩ := h
  obtain ⟨xs, m, _, ex, _, hl, hel⟩ := DataW.trod_array Try.underlying39 hf
  have h0 := hel 0 (by omega)
  have h1 := hel 1 (by omega)
  rw [cellsInt, List.getElem?_eq_getElem (by omega)] at h0 h1
  obtain ⟨a, e0, _⟩ := DataW.trod_int Try.underlying3 h0
  obtain ⟨b, e1, _⟩ := DataW.trod_int Try.underlying3 h1
  simp [Value.cells] at e0 e1
  subst e0 e1
  exact ⟨a, b, rfl⟩
end
end Go.Proofs.Ythbnkhgcfcigjaa
