/- package ntt: weighted. -/
import Derived.Test.YthbnkhgcfcigjaaKH
import Derived.Test.YthbnkhgcfcigjaaKT
set_option linter.unusedVariables false
set_option linter.unusedSimpArgs false
namespace Go.Proofs.Ythbnkhgcfcigjaa
open Go.RowKit

set_option maxHeartbeats 2000000 in
set_option maxRecDepth 100000 in
theorem weighted_c (A : Option Addr) (c : Nat) (xs : List Nat) (u : Nat) (w : World) (h : Rd w A c xs) (hl : xs.length ≤ 1000000) (hu : u < B) :
    Calls Try.prog 61 #[.slice A xs.length c, .int .u64 (u : Int)] w fun e w' => ∃ v, e = .returned v ∧ Rs.Own w' w.heap.size v (wtL u xs) ∧ Ext w w' := by
  go_enter Try.func61, Try.ntmps61
  go_wp2_with (at_make; refine Rs.wp_make0 rfl _ _ _ rfl Try.underlying62 xs.length _ rfl rfl rfl (by omega) ?_; intro v1 w1 ho1 hb1)
  go_loopw [5, 6, 14] (fun v5 v6 v14 wr => ∃ i f : Nat, i ≤ xs.length ∧ v14 = .int .i64 (i : Int) ∧ v5 = .int .u64 (f : Int) ∧ f < B ∧ f % PP = u ^ i % PP ∧ Rs.Own wr w.heap.size v6 ((wtL u xs).take i) ∧ Ext w wr) (fun _ _ v _ => xs.length - (intOf v).toNat)
  case atStart => exact ⟨0, 1, Nat.zero_le _, rfl, rfl, by rw [B_eq]; omega, by rw [Nat.pow_zero], by rw [List.take_zero]; exact ho1, hb1⟩
  case round =>
    obtain ⟨i, f, hi, rfl, rfl, hfB, hf, ho, hE⟩ := hrel
    by_cases hlt : i < xs.length
    · obtain ⟨ad, rfl, hx⟩ := h.cell i hlt
      replace hx := hE.cell hx
      have hw := h.w64.get i
      have hlw : i < (wtL u xs).length := by rw [wtL_len]; exact hlt
      have ht := take_snoc (wtL u xs) i hlw
      have hg := wtL_get u xs hlt
      have hln : ((wtL u xs).take i).length ≤ 1000000 := by rw [List.length_take, wtL_len]; omega
      generalize xs.getD i 0 = x at *
      have hy : x * f % PP = (wtL u xs).getD i 0 := by rw [hg, Nat.mul_mod, hf, ← Nat.mul_mod]
      rw [← hy] at ht
      have hm1 := fun w => times_c x f w hw hfB
      have hm2 := fun w => times_c f u w hfB hu
      have hnf : f * u % PP % PP = u ^ (i + 1) % PP := by rw [Nat.mod_mod, Nat.pow_succ, Nat.mul_mod, hf, ← Nat.mul_mod]
      have hyB : x * f % PP < B := Nat.lt_trans (Nat.mod_lt _ PP_pos) PP_lt_B
      have hfu : f * u % PP < B := Nat.lt_trans (Nat.mod_lt _ PP_pos) PP_lt_B
      have HT := Lib.hid ht
      have HO := Lib.hid ho
      have HL := Lib.hid hln
      have HN := Lib.hid hnf
      have hsz := hE.size
      clear ht ho hln hy hg hf hnf hlw
      generalize (wtL u xs).take i = ys at *
      generalize x * f % PP = y at *
      generalize f * u % PP = f2 at *
      go_wp2_with fail
      refine (hm1 _).mono ?_
      rintro z w3 ⟨rfl, rfl⟩
      go_wp2_with (first
        | (at_builtin; refine Rs.wp_append rfl _ _ _ rfl Try.underlying62 w.heap.size _ ys rfl (HO.out.ext ((Ext.refl _).al _)) (some ⟨wr.heap.size, 0, none⟩) 1 1 [y] rfl rfl (Rs.rd1 wr y hyB) ?hb ?hl ?_; (case hb => simp; omega); (case hl => have := HL.out; simp; omega); intro v' w4 ho4 hb4 hat hg4; have hE4 : Ext w w4 := (hE.al _).trans hb4; clear hat hg4 hb4))
      refine (hm2 _).mono ?_
      rintro z w5 ⟨rfl, rfl⟩
      go_wp2_with fail
      go_roundw
      case rel => exact ⟨i + 1, f2, hlt, by go_num, rfl, hfu, HN.out, by rw [← HT.out]; exact ho4, hE4⟩
      case measure => simp [intOf]; omega
    · obtain rfl : i = xs.length := by omega
      rw [List.take_of_length_le (by rw [wtL_len]; exact Nat.le_refl _)] at ho
      clear hf hfB
      go_wp2_with fail
      go_ret
      exact ⟨_, rfl, ho, hE⟩
end Go.Proofs.Ythbnkhgcfcigjaa
