/- Chapter 04's reference: Transform, Back. -/
import Derived.Test.YthbnkhgcfcigjaaJI
import Derived.Test.YthbnkhgcfcigjaaJM
import Derived.Test.YthbnkhgcfcigjaaJL
import Derived.Test.YthbnkhgcfcigjaaQ0
set_option linter.unusedVariables false
set_option linter.unusedSimpArgs false
namespace Go.Proofs.Ythbnkhgcfcigjaa
open Go.RowKit

set_option maxHeartbeats 8000000 in
set_option maxRecDepth 100000 in
theorem rtransform04_c (m : Nat) (hm : m ≤ 16) (A : Option Addr) (c : Nat) (xs : List Nat) (w : World) (h : Rd w A c xs) (hl : xs.length = 2 ^ m) (hal : Al xs) :
    Calls Try.prog 36 #[.slice A xs.length c] w (Res w (dftL (rootN xs.length) xs)) := by
  obtain ⟨N, hN⟩ : ∃ N, 2 ^ m = N := ⟨_, rfl⟩
  have hN16 : N ≤ 65536 := by rw [← hN]; exact Nat.pow_le_pow_right (n := 2) (by omega) hm
  have hN0 : 0 < N := by rw [← hN]; exact Nat.two_pow_pos m
  have h1 : rootN N ^ N % PP = 1 := by rw [← hN]; exact root_one (by omega)
  have hrt := fun w => rroot04_c N w (by omega) (by omega)
  have hrP := rootN_lt N
  have hdb := fun k => dft_by (w := rootN N) (a := xs) hl (by rw [hN]; exact h1) k
  rw [hN] at hl hdb
  rw [hl]
  unfold dftL
  rw [hl]
  show Calls _ _ _ _ (Res w (tab N (dft (rootN N) xs)))
  generalize rootN N = r at *
  have HDB := Lib.hid hdb
  have HL := Lib.hid hl
  clear hdb hN h1 hl
  have hgx : ∀ j, j < N → ∃ ad, A = some ad ∧ w.cell? (ad.add j) = some (.int .u64 (xs.getD j 0 : Nat)) := fun j hj => h.cell j (by rw [HL.out]; exact hj)
  clear h
  go_enter Try.func36, Try.ntmps36
  go_wp2_with fail
  refine (hrt _).mono ?_
  rintro z w1 ⟨rfl, hE1⟩
  have ho0 : Own (w1.alloc (.cells #[.int .u64 1] 22)) w1.heap.size (.slice (some ⟨w1.heap.size, 0, none⟩) 1 1) (tab 1 fun j => r ^ j % PP) := by
    have := Own.one' w1 1 (by rw [B_eq]; omega)
    rw [show tab 1 (fun j => r ^ j % PP) = [1] by unfold tab; rfl]
    exact this
  have HO0 := Lib.hid ho0
  clear ho0
  go_wp2_with fail
  have hE1' : Ext w (w1.alloc (.cells #[.int .u64 1] 22)) := hE1.al _
  have hz1 : w1.heap.size ≤ (w1.alloc (.cells #[.int .u64 1] 22)).heap.size := by simp
  have ho0 := HO0.out
  have hEw1 : Ext w1 (w1.alloc (.cells #[.int .u64 1] 22)) := (Ext.refl w1).al _
  generalize w1.alloc (.cells #[.int .u64 1] 22) = w2 at *
  generalize hw1s : w1.heap.size = b1 at *
  have hb1 : w.heap.size ≤ b1 := by rw [← hw1s]; exact hE1.size
  go_loopw [5, 6] (fun v5 v6 wr => ∃ i : Nat, 1 ≤ i ∧ i ≤ N ∧ v6 = .int .i64 (i : Int) ∧ Own wr b1 v5 (tab i fun j => r ^ j % PP) ∧ Ext w wr ∧ b1 ≤ wr.heap.size) (fun _ v _ => N - (intOf v).toNat)
  case atStart => exact ⟨1, Nat.le_refl _, by omega, rfl, ho0, hE1', hz1⟩
  case round =>
    obtain ⟨i, hi1, hi, rfl, ho, hE, hsz⟩ := hrel
    obtain ⟨A5, c5, rfl, hr5⟩ := ho.rd
    have hil : (tab i fun j => r ^ j % PP).length = i := tab_len _ _
    by_cases hlt : i < N
    · obtain ⟨ad5, rfl, hx5⟩ := hr5.cell (i - 1) (by rw [hil]; omega)
      rw [tab_get _ (by omega)] at hx5
      have hidx : ((i : Int) - 1) = ((i - 1 : Nat) : Int) := by omega
      have hsn := tab_snoc i fun j => r ^ j % PP
      have hpw : r ^ (i - 1) % PP * r % PP = r ^ i % PP := by
        rw [Nat.mod_mul_mod, ← Nat.pow_succ]
        congr 2
        omega
      have hp1 : r ^ (i - 1) % PP < B := Nat.lt_trans (Nat.mod_lt _ PP_pos) PP_lt_B
      have hp2 : r ^ i % PP < B := Nat.lt_trans (Nat.mod_lt _ PP_pos) PP_lt_B
      have htm := fun w => rtimes04_c (r ^ (i - 1) % PP) r w hp1 (Nat.lt_trans hrP PP_lt_B)
      rw [hpw] at htm
      generalize r ^ (i - 1) % PP = p at *
      generalize r ^ i % PP = p2 at *
      have HSN := Lib.hid hsn
      have HIL := Lib.hid hil
      have HO := Lib.hid ho
      rw [hil]
      have hi1' : ((i - 1 : Nat) : Int) < (i : Int) := by omega
      clear hsn hil ho hr5 hpw
      generalize (tab i fun j => r ^ j % PP) = ys at *
      go_wp2_with fail
      refine (htm _).mono ?_
      rintro z w3 ⟨rfl, hE3⟩
      have hsz3 := hE3.size
      have HO3 := Lib.hid ((HO.out.ext hE3).ext ((Ext.refl _).al (.cells #[.int .u64 (p2 : Int)] 22)))
      rw [HIL.out] at HO3
      go_wp2_with (first
        | (at_builtin; refine wp_append rfl _ _ _ rfl Try.underlying30 b1 _ ys rfl HO3.out (some ⟨w3.heap.size, 0, none⟩) 1 1 [p2] rfl rfl (Rd.nw1 w3 p2 hp2) ?hb ?hl ?_; (case hb => simp; omega); (case hl => have := HIL.out; simp; omega); intro v' w4 ho4 hb4 hat hg4; have hE4 : Ext w w4 := Below.trans ((hE.tr hE3).al _) (hb4.mono hb1); have hs4 := hb4.size; clear hat hg4 hb4))
      go_roundw
      case rel => exact ⟨i + 1, by omega, hlt, by go_num, by rw [← HSN.out]; exact ho4, hE4, by simp at hs4; omega⟩
      case measure => simp [intOf]; omega
    · obtain rfl : i = N := by omega
      rw [hil]
      have hgp : ∀ j, j < i → ∃ ad, A5 = some ad ∧ wr.cell? (ad.add j) = some (.int .u64 ((r ^ j % PP : Nat) : Int)) := fun j hj => by
        obtain ⟨ad, e, hc⟩ := hr5.cell j (by rw [hil]; exact hj)
        rw [tab_get _ hj] at hc
        exact ⟨ad, e, hc⟩
      clear ho hr5 hil ho0 hEw1 HO0
      obtain ⟨b3, hb3⟩ : ∃ b3, wr.heap.size = b3 := ⟨_, rfl⟩
      have B3 := Lib.hid hb3
      clear hb3
      generalize hwq : wr = wq at *
      clear hwq wr
      go_wp2_with fail
      go_loopw [7, 8] (fun v7 v8 w2 => ∃ k : Nat, k ≤ i ∧ v8 = .int .i64 (k : Int) ∧ Own w2 b3 v7 (tab k (dft r xs)) ∧ Ext wq w2) (fun _ v _ => i - (intOf v).toNat)
      case atStart => exact ⟨0, Nat.zero_le _, rfl, Own.nil _ _, Ext.refl _⟩
      case round =>
        obtain ⟨k, hk, rfl, hok, hEk⟩ := hrel
        by_cases hkl : k < i
        · have HOK := Lib.hid hok
          clear hok
          go_wp2_with fail
          go_loopw [9, 10] (fun v9 v10 w3 => ∃ j : Nat, j ≤ i ∧ v10 = .int .i64 (j : Int) ∧ v9 = .int .u64 ((sm (fun j => xs.getD j 0 * (r ^ (j * k % i) % PP)) j % PP : Nat) : Int) ∧ Ext wr w3) (fun _ v _ => i - (intOf v).toNat)
          case atStart => exact ⟨0, Nat.zero_le _, rfl, rfl, Ext.refl _⟩
          case round =>
            obtain ⟨j, hj, rfl, rfl, hE3'⟩ := hrel
            have ho3 := HOK.out.ext hE3'
            have hE3 := hEk.tr hE3'
            by_cases hjl : j < i
            · obtain ⟨ad, rfl, hx⟩ := hgx j hjl
              have hel : j * k % i < i := Nat.mod_lt _ (by omega)
              obtain ⟨ad5, rfl, hp⟩ := hgp (j * k % i) hel
              have hst := sm_step (fun j => xs.getD j 0 * (r ^ (j * k % i) % PP)) j (xs.getD j 0) (r ^ (j * k % i) % PP) rfl
              have hy := hal j
              have hpP : r ^ (j * k % i) % PP < PP := Nat.mod_lt _ PP_pos
              have hsP : sm (fun j => xs.getD j 0 * (r ^ (j * k % i) % PP)) j % PP < PP := Nat.mod_lt _ PP_pos
              have hmB : j * k < 4294967296 := Nat.lt_of_lt_of_le (Nat.mul_lt_mul'' (show j < 65536 by omega) (show k < 65536 by omega)) (by omega)
              have hmul : IntKind.i64.wrap ((j : Int) * (k : Int)) = ((j * k : Nat) : Int) := by rw [← Int.natCast_mul, IntKind.wrap_i64]; omega
              have hrem : ((j * k : Nat) : Int).tmod (i : Int) = ((j * k % i : Nat) : Int) := by rw [Int.tmod_eq_emod_of_nonneg (by omega), Int.natCast_emod]
              have hi0 : ((i : Int) == 0) = false := by rw [beq_eq_false_iff_ne]; omega
              have hT : ∀ w, Calls Try.prog 49 #[.int .u64 ((xs.getD j 0 : Nat) : Int), .int .u64 ((r ^ (j * k % i) % PP : Nat) : Int)] w fun e w' => e = .returned (.int .u64 ((xs.getD j 0 * (r ^ (j * k % i) % PP) % PP : Nat) : Int)) ∧ Ext w w' := fun w => rtimes04_c _ _ w (Nat.lt_trans hy PP_lt_B) (Nat.lt_trans hpP PP_lt_B)
              have hzP : xs.getD j 0 * (r ^ (j * k % i) % PP) % PP < PP := Nat.mod_lt _ PP_pos
              have hA : ∀ w, Calls Try.prog 47 #[.int .u64 ((sm (fun j => xs.getD j 0 * (r ^ (j * k % i) % PP)) j % PP : Nat) : Int), .int .u64 ((xs.getD j 0 * (r ^ (j * k % i) % PP) % PP : Nat) : Int)] w fun e w' => e = .returned (.int .u64 ((sm (fun j => xs.getD j 0 * (r ^ (j * k % i) % PP)) (j + 1) % PP : Nat) : Int)) ∧ Ext w w' := fun w => by
                have := radd04_c _ _ w (Nat.lt_trans hsP PP_lt_B) (Nat.lt_trans hzP PP_lt_B)
                rw [hst] at this
                exact this
              replace hx := (hE.tr hE3).cell hx
              replace hp := hE3.cell hp
              clear hst hmB
              obtain ⟨s2, hs2⟩ : ∃ s2, sm (fun j => xs.getD j 0 * (r ^ (j * k % i) % PP)) (j + 1) % PP = s2 := ⟨_, rfl⟩
              rw [hs2] at hA
              have HS2 := Lib.hid hs2
              clear hs2
              generalize sm (fun j => xs.getD j 0 * (r ^ (j * k % i) % PP)) j % PP = s1 at *
              generalize xs.getD j 0 * (r ^ (j * k % i) % PP) % PP = z1 at *
              generalize r ^ (j * k % i) % PP = p1 at *
              generalize j * k % i = ee at *
              generalize j * k = jk at *
              generalize xs.getD j 0 = x1 at *
              have qx := Later.cell hx
              have qp := Later.cell hp
              have HO3 := Lib.hid ho3
              have hee : (ee : Int) < (i : Int) := by omega
              clear ho3 hx hp
              go_wp2_with fail
              refine wp_region_later (by kernel_rfl) (by kernel_rfl) ?_
              repeat (go_big_quiet_step (first
                | (go_at_call 49; (with_reducible refine Calls.later (hT _)))
                | (go_at_call 47; (with_reducible refine Calls.later (hA _)))))
              refine wpQuiet_nil ?_
              intro wq hw'
              obtain ⟨⟨_, hq⟩, rfl⟩ := hw'
              go_wp2_with fail
              go_roundw
              case rel => exact ⟨j + 1, hjl, by go_num, by rw [HS2.out], hE3'.tr hq⟩
              case measure => simp [intOf]; omega
            · obtain rfl : j = i := by omega
              have hdb := HDB.out k
              rw [hdb]
              have hsn := tab_snoc k (dft r xs)
              have hdB : dft r xs k < B := Nat.lt_trans (Nat.mod_lt _ PP_pos) PP_lt_B
              have hkl2 : (tab k (dft r xs)).length = k := tab_len _ _
              generalize dft r xs k = d at *
              have HSN := Lib.hid hsn
              have HKL := Lib.hid hkl2
              have HO3 := Lib.hid (ho3.ext ((Ext.refl _).al (.cells #[.int .u64 (d : Int)] 22)))
              have hsz3 : b3 ≤ wr.heap.size := by have := hE3.size; rw [B3.out] at this; exact this
              clear hsn hkl2 ho3 hdb
              generalize (tab k (dft r xs)) = ys at *
              go_wp2_with (first
                | (at_builtin; refine wp_append rfl _ _ _ rfl Try.underlying30 b3 _ ys rfl HO3.out (some ⟨wr.heap.size, 0, none⟩) 1 1 [d] rfl rfl (Rd.nw1 wr d hdB) ?hb ?hl ?_; (case hb => simp; omega); (case hl => have := HKL.out; simp; omega); intro v' w4 ho4 hb4 hat hg4; have hE4 := Below.trans (hE3.al _) (hb4.mono (Nat.le_of_eq B3.out)); clear hat hg4 hb4))
              go_roundw
              case rel => exact ⟨k + 1, hkl, by go_num, by rw [← HSN.out]; exact ho4, hE4⟩
              case measure => simp [intOf]; omega
        · obtain rfl : k = i := by omega
          clear hgp hgx
          go_wp2_with fail
          go_ret
          exact ⟨_, rfl, hok.low (by rw [← B3.out]; exact hE.size), hE.tr hEk⟩
set_option maxHeartbeats 8000000 in
set_option maxRecDepth 100000 in
theorem rback04_c (m : Nat) (hm : m ≤ 16) (A : Option Addr) (c : Nat) (xs : List Nat) (w : World) (h : Rd w A c xs) (hl : xs.length = 2 ^ m) (hal : Al xs) :
    Calls Try.prog 37 #[.slice A xs.length c] w (Res w (bkL xs)) := by
  have hrt := rtransform04_c m hm A c xs w h hl hal
  have hN16 : xs.length ≤ 65536 := by rw [hl]; exact Nat.pow_le_pow_right (n := 2) (by omega) hm
  have hN0 : 0 < xs.length := by rw [hl]; exact Nat.two_pow_pos m
  have hiv := fun w => rinverse04_c xs.length w (by rw [B_eq]; omega)
  have hde : ∀ k, k < xs.length → (dftL (rootN xs.length) xs).getD ((xs.length - k) % xs.length) 0 = dft (vN xs.length) xs k := fun k hk => by
    rw [dftL_get _ _ (Nat.mod_lt _ hN0), hl]
    exact dft_turn hl (vN_mul (by omega)) (root_one (by omega)) (by rw [← hl]; exact hk)
  have hiP : iN xs.length < PP := Nat.mod_lt _ PP_pos
  show Calls _ _ _ _ (Res w (tab xs.length fun k => dft (vN xs.length) xs k * iN xs.length % PP))
  have hdl := dftL_len (rootN xs.length) xs
  replace hiv : ∀ w, Calls Try.prog 51 #[.int .u64 (xs.length : Int)] w (WR w (iN xs.length)) := hiv
  have hw1 : IntKind.u64.wrap (xs.length : Int) = (xs.length : Int) := by rw [IntKind.wrap_u64]; omega
  have hdB : ∀ k, dft (vN xs.length) xs k < PP := fun k => Nat.mod_lt _ PP_pos
  generalize dftL (rootN xs.length) xs = ts at *
  generalize dft (vN xs.length) xs = D at *
  generalize iN xs.length = iv at *
  clear hl hal h
  generalize xs.length = N at *
  have HDL := Lib.hid hdl
  clear hdl
  go_enter Try.func37, Try.ntmps37
  go_wp2_with fail
  refine hrt.mono ?_
  rintro z w1 ⟨v1, rfl, ho1, hE1⟩
  obtain ⟨A1, c1, rfl, hr1⟩ := ho1.rd
  rw [HDL.out]
  go_wp2_with fail
  refine (hiv _).mono ?_
  rintro z w2 ⟨rfl, hE2⟩
  have hr2 := hr1.ext hE2
  have hgt : ∀ j, j < N → ∃ ad, A1 = some ad ∧ w2.cell? (ad.add j) = some (.int .u64 (ts.getD j 0 : Nat)) := fun j hj => hr2.cell j (by rw [HDL.out]; exact hj)
  have hEW := hE1.tr hE2
  clear hr1 hr2 ho1 hrt hiv hE1 hE2
  obtain ⟨b3, hb3⟩ : ∃ b3, w2.heap.size = b3 := ⟨_, rfl⟩
  have B3 := Lib.hid hb3
  clear hb3
  go_wp2_with fail
  go_loopw [6, 7] (fun v6 v7 wr => ∃ k : Nat, k ≤ N ∧ v7 = .int .i64 (k : Int) ∧ Own wr b3 v6 (tab k fun k => D k * iv % PP) ∧ Ext w2 wr) (fun _ v _ => N - (intOf v).toNat)
  case atStart => exact ⟨0, Nat.zero_le _, rfl, Own.nil _ _, Ext.refl _⟩
  case round =>
    obtain ⟨k, hk, rfl, hok, hEk⟩ := hrel
    by_cases hkl : k < N
    · have hel : (N - k) % N < N := Nat.mod_lt _ hN0
      obtain ⟨ad, rfl, hx⟩ := hgt _ hel
      rw [hde k hkl] at hx
      replace hx := hEk.cell hx
      have hsub : (N : Int) - (k : Int) = ((N - k : Nat) : Int) := by omega
      have hrem : ((N - k : Nat) : Int).tmod (N : Int) = (((N - k) % N : Nat) : Int) := by rw [Int.tmod_eq_emod_of_nonneg (by omega), Int.natCast_emod]
      have hn0 : ((N : Int) == 0) = false := by rw [beq_eq_false_iff_ne]; omega
      have hT := fun w => rtimes04_c (D k) iv w (Nat.lt_trans (hdB k) PP_lt_B) (Nat.lt_trans hiP PP_lt_B)
      have hsn := tab_snoc k fun k => D k * iv % PP
      have hkl2 : (tab k fun k => D k * iv % PP).length = k := tab_len _ _
      have hyB : D k * iv % PP < B := Nat.lt_trans (Nat.mod_lt _ PP_pos) PP_lt_B
      have hee : (((N - k) % N : Nat) : Int) < (N : Int) := by omega
      generalize D k * iv % PP = y at *
      generalize D k = d at *
      generalize (N - k) % N = ee at *
      generalize N - k = nk at *
      have HSN := Lib.hid hsn
      have HKL := Lib.hid hkl2
      have HO := Lib.hid hok
      clear hsn hkl2 hok hde hgt
      generalize (tab k fun k => D k * iv % PP) = ys at *
      go_wp2_with fail
      refine (hT _).mono ?_
      rintro z w3 ⟨rfl, hE3⟩
      have HO3 := Lib.hid ((HO.out.ext hE3).ext ((Ext.refl _).al (.cells #[.int .u64 (y : Int)] 22)))
      have hE4' := hEk.tr hE3
      have hsz3 : b3 ≤ w3.heap.size := by have := hE4'.size; rw [B3.out] at this; exact this
      go_wp2_with (first
        | (at_builtin; refine wp_append rfl _ _ _ rfl Try.underlying30 b3 _ ys rfl HO3.out (some ⟨w3.heap.size, 0, none⟩) 1 1 [y] rfl rfl (Rd.nw1 w3 y hyB) ?hb ?hl ?_; (case hb => simp; omega); (case hl => have := HKL.out; simp; omega); intro v' w4 ho4 hb4 hat hg4; have hE4 := Below.trans (hE4'.al _) (hb4.mono (Nat.le_of_eq B3.out)); clear hat hg4 hb4))
      go_roundw
      case rel => exact ⟨k + 1, hkl, by go_num, by rw [← HSN.out]; exact ho4, hE4⟩
      case measure => simp [intOf]; omega
    · obtain rfl : k = N := by omega
      clear hde hgt
      go_wp2_with fail
      go_ret
      exact ⟨_, rfl, hok.low (by rw [← B3.out]; exact hEW.size), hEW.tr hEk⟩
end Go.Proofs.Ythbnkhgcfcigjaa
