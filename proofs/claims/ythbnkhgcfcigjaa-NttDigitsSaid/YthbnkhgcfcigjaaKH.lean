/- package ntt: opened, told. -/
import Derived.Test.YthbnkhgcfcigjaaKF
import Derived.Test.YthbnkhgcfcigjaaKG
set_option linter.unusedVariables false
set_option linter.unusedSimpArgs false
namespace Go.Proofs.Ythbnkhgcfcigjaa
open Go.RowKit

theorem Rs.rd1 (w : World) (x : Nat) (hx : x < B) : Rd (w.alloc (.cells #[.int .u64 (x : Int)] 59)) (some ⟨w.heap.size, 0, none⟩) 1 [x] :=
  Rs.Bk.rd (xs := [x]) ⟨heap_alloc_new w _, W64.cons hx W64.nil⟩ (by simp) (by simp)
theorem take_snoc (xs : List Nat) (i : Nat) (hi : i < xs.length) : xs.take i ++ [xs.getD i 0] = xs.take (i + 1) := by
  rw [List.take_add_one, List.getD_eq_getElem?_getD, List.getElem?_eq_getElem hi]
  rfl
set_option maxHeartbeats 2000000 in
set_option maxRecDepth 100000 in
theorem opened_c (A : Option Addr) (c : Nat) (xs : List Nat) (w : World) (h : Rd w A c xs) (hl : xs.length ≤ 1000000) :
    Calls Try.prog 59 #[.slice A xs.length c] w fun e w' => ∃ v, e = .returned v ∧ Rs.Own w' w.heap.size v xs ∧ Ext w w' := by
  go_enter Try.func59, Try.ntmps59
  go_wp2_with (at_make; refine Rs.wp_make0 rfl _ _ _ rfl Try.underlying62 xs.length _ rfl rfl rfl (by omega) ?_; intro v1 w1 ho1 hb1)
  go_loopw [3, 11] (fun v3 v11 wr => ∃ i : Nat, i ≤ xs.length ∧ v11 = .int .i64 (i : Int) ∧ Rs.Own wr w.heap.size v3 (xs.take i) ∧ Ext w wr) (fun _ v _ => xs.length - (intOf v).toNat)
  case atStart => exact ⟨0, Nat.zero_le _, rfl, by rw [List.take_zero]; exact ho1, hb1⟩
  case round =>
    obtain ⟨i, hi, rfl, ho, hE⟩ := hrel
    by_cases hlt : i < xs.length
    · obtain ⟨ad, rfl, hx⟩ := h.cell i hlt
      replace hx := hE.cell hx
      have hw := h.w64.get i
      have ht := take_snoc xs i hlt
      have hln : (xs.take i).length ≤ 1000000 := by rw [List.length_take]; omega
      generalize xs.getD i 0 = x at *
      have HT := Lib.hid ht
      have HO := Lib.hid ho
      have HL := Lib.hid hln
      have hsz := hE.size
      clear ht ho hln
      generalize xs.take i = ys at *
      go_wp2_with (first
        | (at_builtin; refine Rs.wp_append rfl _ _ _ rfl Try.underlying62 w.heap.size _ ys rfl (HO.out.ext ((Ext.refl _).al _)) (some ⟨wr.heap.size, 0, none⟩) 1 1 [x] rfl rfl (Rs.rd1 wr x hw) ?hb ?hl ?_; (case hb => simp; omega); (case hl => have := HL.out; simp; omega); intro v' w4 ho4 hb4 hat hg4; have hE4 : Ext w w4 := (hE.al _).trans hb4; clear hat hg4 hb4))
      go_roundw
      case rel => exact ⟨i + 1, hlt, by go_num, by rw [← HT.out]; exact ho4, hE4⟩
      case measure => simp [intOf]; omega
    · obtain rfl : i = xs.length := by omega
      rw [List.take_length] at ho
      go_wp2_with fail
      go_ret
      exact ⟨_, rfl, ho, hE⟩
set_option maxHeartbeats 2000000 in
set_option maxRecDepth 100000 in
theorem told_c (A : Option Addr) (c : Nat) (xs : List Nat) (w : World) (h : Rd w A c xs) (hl : xs.length ≤ 1000000) :
    Calls Try.prog 57 #[.slice A xs.length c] w fun e w' => ∃ v, e = .returned v ∧ Own w' w.heap.size v xs ∧ Ext w w' := by
  go_enter Try.func57, Try.ntmps57
  go_wp2_with (at_make; refine wp_make0 rfl _ _ _ rfl Try.underlying30 xs.length _ rfl rfl rfl (by omega) ?_; intro v1 w1 ho1 hb1)
  go_loopw [3, 11] (fun v3 v11 wr => ∃ i : Nat, i ≤ xs.length ∧ v11 = .int .i64 (i : Int) ∧ Own wr w.heap.size v3 (xs.take i) ∧ Ext w wr) (fun _ v _ => xs.length - (intOf v).toNat)
  case atStart => exact ⟨0, Nat.zero_le _, rfl, by rw [List.take_zero]; exact ho1, hb1⟩
  case round =>
    obtain ⟨i, hi, rfl, ho, hE⟩ := hrel
    by_cases hlt : i < xs.length
    · obtain ⟨ad, rfl, hx⟩ := h.cell i hlt
      replace hx := hE.cell hx
      have hw := h.w64.get i
      have ht := take_snoc xs i hlt
      have hln : (xs.take i).length ≤ 1000000 := by rw [List.length_take]; omega
      generalize xs.getD i 0 = x at *
      have HT := Lib.hid ht
      have HO := Lib.hid ho
      have HL := Lib.hid hln
      have hsz := hE.size
      clear ht ho hln
      generalize xs.take i = ys at *
      go_wp2_with (first
        | (at_builtin; refine wp_append rfl _ _ _ rfl Try.underlying30 w.heap.size _ ys rfl (HO.out.ext ((Ext.refl _).al _)) (some ⟨wr.heap.size, 0, none⟩) 1 1 [x] rfl rfl (Rd.nw1 wr x hw) ?hb ?hl ?_; (case hb => simp; omega); (case hl => have := HL.out; simp; omega); intro v' w4 ho4 hb4 hat hg4; have hE4 : Ext w w4 := (hE.al _).trans hb4; clear hat hg4 hb4))
      go_roundw
      case rel => exact ⟨i + 1, hlt, by go_num, by rw [← HT.out]; exact ho4, hE4⟩
      case measure => simp [intOf]; omega
    · obtain rfl : i = xs.length := by omega
      rw [List.take_length] at ho
      go_wp2_with fail
      go_ret
      exact ⟨_, rfl, ho, hE⟩
end Go.Proofs.Ythbnkhgcfcigjaa
