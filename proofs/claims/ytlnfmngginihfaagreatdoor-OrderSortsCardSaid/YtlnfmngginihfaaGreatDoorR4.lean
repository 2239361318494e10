/- the references' bits: Count, Len, IsZero, Large, Bit. -/
import Derived.Test.YtlnfmngginihfaaGreatDoorR3
import Derived.Test.YtlnfmngginihfaaGreatDoorW5
import Derived.Test.YtlnfmngginihfaaGreatDoorM4
set_option linter.unusedVariables false
set_option linter.unusedSimpArgs false
namespace Go.Proofs.YtlnfmngginihfaaGreatDoor
open Go.RowKit

theorem rbit_at (x k : Nat) : (((x : Int) / 2 ^ k).tmod 2 == 1) = x.testBit k := by
  rw [shr_cast, Int.tmod_eq_emod_of_nonneg (Int.natCast_nonneg _), Nat.testBit_eq_decide_div_mod_eq, Bool.eq_iff_iff, beq_iff_eq, decide_eq_true_iff]
  omega
set_option maxHeartbeats 400000 in
set_option maxRecDepth 100000 in
theorem rcount_c (x : Nat) (w : World) (hx : x < B) : Calls Tryz.prog 84 #[.int .u64 (x : Int)] w fun e w' => (∃ t o : Int, e = .returned (.tuple #[.int .i64 (64 - (bl x : Int)), .int .i64 t, .int .i64 o])) ∧ w = w' := by
  go_enter Tryz.func84, Tryz.ntmps84
  go_wp2
  go_loopw [5, 6, 7, 8] (fun v5 v6 v7 v8 wr => ∃ (i ld o : Nat) (t : Int), i ≤ 64 ∧ v8 = .int .i64 i ∧ v5 = .int .i64 ld ∧ ld + bl (x % 2 ^ i) = 64 ∧ v6 = .int .i64 t ∧ v7 = .int .i64 o ∧ o ≤ i ∧ wr = w) (fun _ _ _ v _ => 64 - (intOf v).toNat)
  case atStart => exact ⟨0, 64, 0, 64, by omega, rfl, rfl, by rw [Nat.pow_zero, Nat.mod_one]; rfl, rfl, rfl, Nat.le_refl _, rfl⟩
  case round =>
    obtain ⟨i, ld, o, t, hi, rfl, rfl, hld, rfl, rfl, ho, rfl⟩ := hrel
    have HLD := Lib.hid hld
    have hstep := bl_mod_succ x i
    clear hld
    by_cases hlt : i < 64
    · have hb := rbit_at x i
      obtain ⟨b, hb2⟩ : ∃ b, b = x.testBit i := ⟨_, rfl⟩
      rw [← hb2] at hb hstep
      cases b
      · rw [if_neg (by simp)] at hstep
        have HS := Lib.hid hstep
        clear hstep hb2
        go_wp2
        go_roundw
        case rel => exact ⟨i + 1, ld, o, t, hlt, by go_num, rfl, by rw [HS.out]; exact HLD.out, rfl, rfl, by omega, trivial⟩
        case measure => simp [intOf]; omega
      · rw [if_pos rfl] at hstep
        have HS := Lib.hid hstep
        clear hstep hb2
        have e1 : (63 : Int) - (i : Int) = ((63 - i : Nat) : Int) := by omega
        go_wp2
        go_roundw
        case rel => exact ⟨i + 1, 63 - i, o + 1, _, hlt, by go_num, rfl, by rw [HS.out]; omega, rfl, by go_num, by omega, trivial⟩
        case measure => simp [intOf]; omega
    · obtain rfl : i = 64 := by omega
      have e : x % 2 ^ 64 = x := Nat.mod_eq_of_lt (by rw [← B_two]; exact hx)
      have e2 : ld + bl x = 64 := by have := HLD.out; rwa [e] at this
      have HE := Lib.hid e2
      clear hstep e e2
      go_wp2
      go_ret3
      exact ⟨⟨t, o, by rw [show (64 : Int) - (bl x : Int) = ld by have := HE.out; omega]; rfl⟩, rfl⟩
set_option maxHeartbeats 400000 in
set_option maxRecDepth 100000 in
theorem rlen_c (A : Option Addr) (c : Nat) (xs : List Nat) (w : World) (h : Rd w A c xs) (hs : xs.length ≤ 1000000000) :
    Calls Tryz.prog 57 #[.slice A xs.length c] w fun e w' => e = .returned (.int .i64 (bl (val xs))) ∧ w = w' := by
  have ht := topN_le xs
  have hw := h.w64
  go_enter Tryz.func57, Tryz.ntmps57
  go_wp2
  go_loopw [3] (fun v wr => ∃ k : Nat, k ≤ xs.length ∧ topN xs ≤ k ∧ v = .int .i64 ((k : Int) - 1) ∧ wr = w) (fun v _ => (intOf v + 1).toNat)
  case atStart => exact ⟨xs.length, Nat.le_refl _, ht, rfl, rfl⟩
  case round =>
    obtain ⟨k, hk, htk, rfl, rfl⟩ := hrel
    rcases Nat.eq_zero_or_pos k with rfl | h0
    · have hz := topN_zero_val xs hw (by omega)
      have HZ := Lib.hid hz
      clear htk hz ht
      go_wp2
      go_ret
      exact ⟨by rw [HZ.out]; rfl, rfl⟩
    · obtain ⟨ad, rfl, hcell⟩ := h.cell (k - 1) (by omega)
      obtain ⟨j, hj⟩ : ∃ j, k = j + 1 := ⟨k - 1, by omega⟩
      subst hj
      have e1 : ((j + 1 : Nat) : Int) - 1 = (j : Int) := by omega
      rw [show j + 1 - 1 = j by omega] at hcell
      by_cases hz : xs.getD j 0 = 0
      · have hne : topN xs ≠ j + 1 := fun e => topN_last xs (by omega) (by rw [e]; exact hz)
        rw [hz] at hcell
        have HT := Lib.hid (show topN xs ≤ j by omega)
        clear ht htk hne
        rw [e1]
        go_wp2
        go_roundw
        case rel => exact ⟨j, by omega, HT.out, rfl, trivial⟩
        case measure => simp [intOf]
      · have hne : topN xs = j + 1 := by
          rcases Nat.lt_or_ge j (topN xs) with h1 | h1
          · omega
          · exact absurd (topN_zero xs _ h1) hz
        have hb := bl_top xs hw (by omega)
        rw [hne, show j + 1 - 1 = j by omega] at hb
        have hx := hw.get j
        generalize xs.getD j 0 = x at *
        have hb64 := bl_lt_word hx
        have hx0 : ((x : Int) != 0) = true := by rw [bne_iff_ne]; omega
        have HB := Lib.hid hb
        have hcnt := rcount_c x wr hx
        clear ht htk hne hb
        generalize bl x = l at *
        rw [e1]
        go_wp2_with (go_at_call 84; refine hcnt.mono ?_; rintro e w1 ⟨⟨t, o, rfl⟩, rfl⟩)
        go_ret
        exact ⟨by rw [HB.out]; exact congrArg (fun z => Ending.returned (Value.int .i64 z)) (by omega), rfl⟩
theorem riszero_c (A : Option Addr) (c : Nat) (xs : List Nat) (w : World) (h : Rd w A c xs) (hs : xs.length ≤ 1000000000) :
    Calls Tryz.prog 56 #[.slice A xs.length c] w fun e w' => e = .returned (.bool (decide (val xs = 0))) ∧ w = w' := by
  have h1 := rlen_c A c xs w h hs
  have hz : ((bl (val xs) : Int) == 0) = decide (val xs = 0) := by
    have := bl_eq_zero (val xs)
    rw [Bool.eq_iff_iff, beq_iff_eq, decide_eq_true_iff]; omega
  generalize decide (val xs = 0) = b at *
  generalize bl (val xs) = l at *
  go_enter Tryz.func56, Tryz.ntmps56
  go_wp2_with (go_at_call 57; refine h1.mono ?_; rintro e w1 ⟨rfl, rfl⟩)
  go_ret
  exact ⟨rfl, rfl⟩
theorem rlarge_c (A : Option Addr) (c : Nat) (n : Nat) (w : World) :
    Calls Tryz.prog 55 #[.slice A n c] w fun e w' => e = .returned (.bool (decide (4096 < n))) ∧ w = w' := by
  have e : decide ((4096 : Int) < (n : Int)) = decide (4096 < n) := by rw [Bool.eq_iff_iff, decide_eq_true_iff, decide_eq_true_iff]; omega
  generalize decide (4096 < n) = b at *
  go_enter Tryz.func55, Tryz.ntmps55
  go_wp2
  go_ret
  exact ⟨rfl, rfl⟩
set_option maxHeartbeats 400000 in
set_option maxRecDepth 100000 in
theorem rbit_c (A : Option Addr) (c : Nat) (xs : List Nat) (i : Nat) (w : World) (h : Rd w A c xs) (hi : i ≤ 1000000000) :
    Calls Tryz.prog 89 #[.slice A xs.length c, .int .i64 i] w fun e w' => e = .returned (.bool ((val xs).testBit i)) ∧ w = w' := by
  have ht := testBit_words xs h.w64 i
  have hl := h.len
  have HT := Lib.hid ht
  clear ht
  by_cases hlt : i / 64 < xs.length
  · obtain ⟨ad, rfl, hc⟩ := h.cell (i / 64) hlt
    generalize xs.getD (i / 64) 0 = x at *
    go_enter Tryz.func89, Tryz.ntmps89
    go_wp2
    go_ret
    exact ⟨by rw [HT.out, ← rbit_at x _]; rfl, rfl⟩
  · have hz : (val xs).testBit i = false := by
      rw [HT.out, List.getD_eq_getElem?_getD, List.getElem?_eq_none (by omega)]; simp
    have HZ := Lib.hid hz
    clear HT hz
    go_enter Tryz.func89, Tryz.ntmps89
    go_wp2
    go_ret
    exact ⟨by rw [HZ.out]; rfl, rfl⟩
set_option maxHeartbeats 400000 in
set_option maxRecDepth 100000 in
theorem rbits_c (A : Option Addr) (c : Nat) (xs : List Nat) (w : World) (h : Rd w A c xs) (hs : xs.length ≤ 10000000) :
    Calls Tryz.prog 61 #[.slice A xs.length c] w fun e w' => e = .returned (.tuple #[.int .i64 (tz (val xs)), .int .i64 (pc (val xs))]) ∧ w = w' := by
  have h1 := rlen_c A c xs w h (by omega)
  have hbl : bl (val xs) ≤ 640000000 := by
    have : bl (val xs) ≤ 64 * xs.length := by
      refine (bl_le _ _).2 (Nat.lt_of_lt_of_le (val_lt h.w64) ?_)
      rw [B_two, ← Nat.pow_mul]; exact Nat.le_refl _
    omega
  have hbit := fun i hi => rbit_c A c xs i w h hi
  have hq0 : val xs / 2 ^ bl (val xs) = 0 := Nat.div_eq_of_lt bl_lt
  have htz := fun k => tzFrom_bl (val xs) k
  have hz0 := tzFrom_zero (val xs)
  have hts := fun k => @tzFrom_set (val xs) k
  have htc := fun k => @tzFrom_clear (val xs) k
  have hpc := pc_bit (val xs)
  have hp0 : pc (val xs / 2 ^ 0) = pc (val xs) := by rw [Nat.pow_zero, Nat.div_one]
  have hpe : pc (val xs / 2 ^ bl (val xs)) = 0 := by rw [hq0, pc_zero]
  have hte := htz _ (Nat.le_refl _)
  generalize val xs = m at *
  generalize bl m = l at *
  go_enter Tryz.func61, Tryz.ntmps61
  have HTE := Lib.hid hte
  have HPE := Lib.hid hpe
  have HP0 := Lib.hid hp0
  have HZ0 := Lib.hid hz0
  have HTS := Lib.hid hts
  have HTC := Lib.hid htc
  have HPC := Lib.hid hpc
  have HBIT := Lib.hid hbit
  clear hte hpe hp0 hz0 hts htc hpc htz hq0 hbit
  go_wp2_with (go_at_call 57; refine h1.mono ?_; rintro e w1 ⟨rfl, rfl⟩)
  clear h1
  go_loopw [4, 5, 6] (fun v4 v5 v6 wr => ∃ (k t o : Nat), k ≤ l ∧ v6 = .int .i64 ((k : Int) - 1) ∧ v4 = .int .i64 t ∧ t = tzFrom m k ∧ v5 = .int .i64 o ∧ o = pc (m / 2 ^ k) ∧ o + k ≤ l ∧ wr = w) (fun _ _ v _ => (intOf v + 1).toNat)
  case atStart => exact ⟨l, 0, 0, Nat.le_refl _, rfl, rfl, HTE.out.symm, rfl, HPE.out.symm, by omega, rfl⟩
  case round =>
    obtain ⟨k, t, o, hk, rfl, rfl, ht, rfl, ho, hok, rfl⟩ := hrel
    have HT := Lib.hid ht
    have HO := Lib.hid ho
    clear ht ho
    rcases Nat.eq_zero_or_pos k with rfl | h0
    · go_wp2
      go_ret2
      exact ⟨by rw [← HP0.out, ← HZ0.out, ← HT.out, ← HO.out]; rfl, rfl⟩
    · obtain ⟨j, hj⟩ : ∃ j, k = j + 1 := ⟨k - 1, by omega⟩
      subst hj
      have e1 : ((j + 1 : Nat) : Int) - 1 = (j : Int) := by omega
      have hb := HBIT.out j (by omega)
      obtain ⟨b, hb2⟩ : ∃ b, m.testBit j = b := ⟨_, rfl⟩
      rw [hb2] at hb
      have hpc := HPC.out j
      rw [hb2, ← HO.out] at hpc
      rw [e1]
      cases b
      · have htc := HTC.out j hb2
        rw [← HT.out] at htc
        rw [if_neg (by simp)] at hpc
        have H1 := Lib.hid htc
        have H2 := Lib.hid hpc
        clear htc hpc hb2 HT HO
        go_wp2_with (go_at_call 89; refine hb.mono ?_; rintro e w1 ⟨rfl, rfl⟩)
        go_roundw
        case rel => exact ⟨j, t, o, by omega, rfl, rfl, H1.out.symm, rfl, by rw [H2.out]; omega, by omega, trivial⟩
        case measure => simp [intOf]
      · have hts := HTS.out j hb2
        rw [if_pos rfl] at hpc
        have H1 := Lib.hid hts
        have H2 := Lib.hid hpc
        clear hts hpc hb2 HT HO
        go_wp2_with (go_at_call 89; refine hb.mono ?_; rintro e w1 ⟨rfl, rfl⟩)
        go_roundw
        case rel => exact ⟨j, j, o + 1, by omega, rfl, rfl, H1.out.symm, by go_num, by rw [H2.out]; omega, by omega, trivial⟩
        case measure => simp [intOf]
end Go.Proofs.YtlnfmngginihfaaGreatDoor
