/- NttFolds: the walk. -/
import Derived.Test.YthbnkhgcfcigjaaJY
import Derived.Test.YthbnkhgcfcigjaaJW
import Derived.Test.YthbnkhgcfcigjaaJX
import Derived.Deep.CutRange
set_option linter.unusedVariables false
set_option linter.unusedSimpArgs false
namespace Go.Proofs.Ythbnkhgcfcigjaa
open Go.RowKit

theorem add_nil (a : Addr) : a.add 0 = a := by unfold Addr.add; simp
theorem okB_yes {a b : Nat} (ha : a < PP) (hb : b < PP) : okB a b = true := by
  unfold okB
  rw [decide_eq_true ha, decide_eq_true hb]
  rfl
theorem add_ok {a b : Nat} (w : World) (ha : a < PP) (hb : b < PP) : Calls Try.prog 39 #[.int .u64 (a : Int), .int .u64 (b : Int)] w fun e w' => e = .returned (.tuple #[.int .u64 (((a + b) % PP : Nat) : Int), .int .i64 0]) ∧ Ext w w' := by
  have q := Add_c a b w (Nat.lt_trans ha PP_lt_B) (Nat.lt_trans hb PP_lt_B)
  rw [okB_yes ha hb] at q
  unfold opR at q
  rw [if_pos rfl, if_pos rfl] at q
  exact q
theorem sub_ok {a b : Nat} (w : World) (ha : a < PP) (hb : b < PP) : Calls Try.prog 40 #[.int .u64 (a : Int), .int .u64 (b : Int)] w fun e w' => e = .returned (.tuple #[.int .u64 (((a + PP - b) % PP : Nat) : Int), .int .i64 0]) ∧ Ext w w' := by
  have q := Sub_c a b w (Nat.lt_trans ha PP_lt_B) (Nat.lt_trans hb PP_lt_B)
  rw [okB_yes ha hb] at q
  unfold opR at q
  rw [if_pos rfl, if_pos rfl] at q
  exact q
theorem times_ok {a b : Nat} (w : World) (ha : a < PP) (hb : b < PP) : Calls Try.prog 41 #[.int .u64 (a : Int), .int .u64 (b : Int)] w fun e w' => e = .returned (.tuple #[.int .u64 ((a * b % PP : Nat) : Int), .int .i64 0]) ∧ Ext w w' := by
  have q := Times_c a b w (Nat.lt_trans ha PP_lt_B) (Nat.lt_trans hb PP_lt_B)
  rw [okB_yes ha hb] at q
  unfold opR at q
  rw [if_pos rfl, if_pos rfl] at q
  exact q
theorem inv_ok {a : Nat} (w : World) (h0 : 0 < a) (ha : a < PP) : Calls Try.prog 42 #[.int .u64 (a : Int)] w fun e w' => e = .returned (.tuple #[.int .u64 ((a ^ (PP - 2) % PP : Nat) : Int), .int .i64 0]) ∧ Ext w w' := by
  have q := Inverse_c a w (Nat.lt_trans ha PP_lt_B)
  unfold inV inE at q
  rw [if_pos ha, if_pos ha, if_neg (by omega), if_neg (by omega)] at q
  exact q
theorem okP_yes {xs ys : List Nat} {m : Nat} (hm : m ≤ 16) (h1 : xs.length = 2 ^ m) (h2 : ys.length = 2 ^ m) (h3 : Al xs) (h4 : Al ys) : okP xs ys = true := by
  unfold okP okT
  rw [big_of_al h3, big_of_al h4, h1, h2, lenB_of hm, decide_eq_true rfl]
  rfl
set_option maxHeartbeats 8000000 in
set_option maxRecDepth 100000 in
theorem nttFolds_c (A : Option Addr) (c : Nat) (xs : List Nat) (A' : Option Addr) (c' : Nat) (ys : List Nat) (k : Nat) (w : World) (h : Rd w A c xs) (h' : Rd w A' c' ys) (hk : k < B) :
    Calls Try.prog 9 #[.slice A xs.length c, .slice A' ys.length c', .int .u64 (k : Int)] w fun e w' => e = .returned (.bool true) ∧ Ext w w' := by
  have htm := tame_c A c xs 5 w h (by omega)
  go_enter Try.func9, Try.ntmps9
  go_wp2_with fail
  refine htm.mono ?_
  rintro z w1 ⟨k1, hk1, v1, rfl, ho1, hE1⟩
  obtain ⟨A1, c1, rfl, hr1⟩ := ho1.rd
  have hal := rsL_al xs (2 ^ k1)
  have hlen := rsL_len xs (2 ^ k1)
  generalize rsL xs (2 ^ k1) = a at *
  have hn32 : 2 ^ k1 ≤ 32 := Nat.pow_le_pow_right (n := 2) (by omega) hk1
  have hn0 := Nat.two_pow_pos k1
  have hsl := sdL_len ys (2 ^ k1)
  have hsa := sdL_al ys (2 ^ k1)
  have hOK := okP_yes (m := k1) (by omega) hlen hsl hal hsa
  generalize 2 ^ k1 = n at *
  have hsd : padT (rsL ys (min ys.length n)) n = sdL ys n := rfl
  have hle11 : (rsL ys (min ys.length n)).length ≤ n := by rw [rsL_len]; omega
  have hrs := fun w h => residues_c A' c' ys n w h (by omega)
  generalize rsL ys (min ys.length n) = rb at *
  generalize sdL ys n = b at *
  have hLo : ∀ A' c' w, Rd w A1 c1 a → Rd w A' c' b → Calls Try.prog 20 #[.slice A1 n c1, .slice A' n c'] w (LR w (lgL a b) 0) := by
    intro A' c' w h h'
    have q := Long_c A1 A' c1 c' a b w h h'
    rw [okL_yes (by omega) (by omega) hal hsa, if_pos rfl, if_pos rfl, hlen, hsl] at q
    exact q
  have hRo : ∀ A' c' w, Rd w A1 c1 a → Rd w A' c' b → Calls Try.prog 18 #[.slice A1 n c1, .slice A' n c'] w (LR w (cycL a b) 0) := by
    intro A' c' w h h'
    have q := Round_c A1 A' c1 c' a b w h h'
    rw [hOK, if_pos rfl, if_pos rfl, hlen, hsl] at q
    exact q
  have hTu : ∀ A' c' w, Rd w A1 c1 a → Rd w A' c' b → Calls Try.prog 19 #[.slice A1 n c1, .slice A' n c'] w (LR w (trL a b) 0) := by
    intro A' c' w h h'
    have q := Turned_c A1 A' c1 c' a b w h h'
    rw [hOK, if_pos rfl, if_pos rfl, hlen, hsl] at q
    exact q
  have hll : (lgL a b).length = 2 * n - 1 := by rw [lgL_len (by omega) (by omega), hlen, hsl]; omega
  have hcl : (cycL a b).length = n := by rw [cycL_len, hlen]
  have htl : (trL a b).length = n := by unfold trL; rw [tab_len, hlen]
  have hcf : ∀ i, i < n → (cycL a b).getD i 0 = ((lgL a b).getD i 0 + (lgL a b).getD (i + n) 0) % PP := fun i hi => cycL_fold hlen hsl hi
  have htf : ∀ i, i < n → (trL a b).getD i 0 = ((lgL a b).getD i 0 + PP - (lgL a b).getD (i + n) 0) % PP := fun i hi => trL_fold hlen hsl hi
  have hla := lgL_al a b
  generalize lgL a b = ll at *
  generalize cycL a b = cc at *
  generalize trL a b = tt at *
  rw [hlen]
  have HLEN := Lib.hid hlen
  have HSL := Lib.hid hsl
  have HSD := Lib.hid hsd
  have HLL := Lib.hid hll
  have HCL := Lib.hid hcl
  have HTL := Lib.hid htl
  clear hlen hsl hsd hll hcl htl hOK hsa htm ho1
  go_wp2_with (at_make; refine wp_make rfl _ _ _ rfl Try.underlying30 n _ rfl rfl rfl (by omega) ?_; intro g w2 hg2 hb2 he2)
  refine (hrs _ ((h'.ext hE1).ext he2)).mono ?_
  rintro z w3 ⟨v3, rfl, ho3, hE3⟩
  obtain ⟨A3, c3, rfl, hr3⟩ := ho3.rd
  have hb3 := hb2.ext hE3
  clear ho3 hb2
  go_wp2_with ((with_reducible refine wp_copyw rfl (.tmp 36) (.tmp 39) 30 30 rfl Try.underlying30 g n n rfl hb3 A3 rb.length c3 rb rfl rfl hr3 hle11 ?_); intro w4 hb4 hg4)
  have hE4 := hE1.tr (hg4.ext (he2.tr hE3) hg2)
  have hr4 := hr1.ext (hg4.ext (he2.tr hE3) hg2)
  rw [HSD.out] at hb4
  have hq4 := hb4.rd (by rw [HSL.out]; omega) (Nat.le_of_eq HSL.out)
  clear hb4 hr3 hb3 hrs hle11 hr1 hE1 hE3 he2 hg4
  refine (hLo _ _ _ hr4 hq4).mono ?_
  rintro z w5 ⟨v5, rfl, ho5, hE5⟩
  obtain ⟨A5, c5, rfl, hr5⟩ := ho5.rd
  replace hr4 := hr4.ext hE5
  replace hq4 := hq4.ext hE5
  replace hE4 := hE4.tr hE5
  rw [HLL.out]
  obtain ⟨L, hL⟩ : ∃ L, 2 * n - 1 = L := ⟨_, rfl⟩
  rw [hL]
  have hL2 : ((L : Int) != 2 * (n : Int) - 1) = false := by rw [bne_eq_false_iff_eq]; omega
  have hL3 : L + 1 ≤ 2 * n := by omega
  have hL4 : 2 * n ≤ L + 1 := by omega
  have HL := Lib.hid hL
  clear hL ho5 hE5 hLo
  go_wp2_with fail
  refine (hRo _ _ _ hr4 hq4).mono ?_
  rintro z w6 ⟨v6, rfl, ho6, hE6⟩
  obtain ⟨A6, c6, rfl, hr6⟩ := ho6.rd
  replace hr4 := hr4.ext hE6
  replace hr5 := hr5.ext hE6
  replace hq4 := hq4.ext hE6
  replace hE4 := hE4.tr hE6
  rw [HCL.out]
  clear ho6 hE6 hRo
  go_wp2_with fail
  refine (hTu _ _ _ hr4 hq4).mono ?_
  rintro z w7 ⟨v7, rfl, ho7, hE7⟩
  obtain ⟨A7, c7, rfl, hr7⟩ := ho7.rd
  replace hr4 := hr4.ext hE7
  replace hr5 := hr5.ext hE7
  replace hr6 := hr6.ext hE7
  replace hE4 := hE4.tr hE7
  rw [HTL.out]
  clear ho7 hE7 hTu hq4
  obtain ⟨ad4, rfl⟩ := hr4.addr (by rw [HLEN.out]; omega)
  obtain ⟨ad5, rfl⟩ := hr5.addr (by rw [HLL.out]; omega)
  obtain ⟨ad6, rfl⟩ := hr6.addr (by rw [HCL.out]; omega)
  obtain ⟨ad7, rfl⟩ := hr7.addr (by rw [HTL.out]; omega)
  have g4 : w7.cell? (ad4.add 0) = some (.int .u64 (a.getD 0 0 : Nat)) := hr4.get 0 (by rw [HLEN.out]; omega)
  have g5 : ∀ i, i < L → w7.cell? (ad5.add i) = some (.int .u64 (ll.getD i 0 : Nat)) := fun i hi => hr5.get i (by rw [HLL.out]; omega)
  have g6 : ∀ i, i < n → w7.cell? (ad6.add i) = some (.int .u64 (cc.getD i 0 : Nat)) := fun i hi => hr6.get i (by rw [HCL.out]; exact hi)
  have g7 : ∀ i, i < n → w7.cell? (ad7.add i) = some (.int .u64 (tt.getD i 0 : Nat)) := fun i hi => hr7.get i (by rw [HTL.out]; exact hi)
  clear hr4 hr5 hr6 hr7 h h'
  go_wp2_with fail
  go_loopw [16] (fun v16 wr => ∃ (i : Nat), i ≤ n ∧ v16 = .int .i64 (i : Int) ∧ Ext w7 wr) (fun v _ => n - (intOf v).toNat)
  case atStart => exact ⟨0, Nat.zero_le _, rfl, Ext.refl _⟩
  case round =>
    obtain ⟨i, hi, rfl, hE⟩ := hrel
    by_cases hlt : i < n
    · have x5 := hE.cell (g5 i (by omega))
      have x6 := hE.cell (g6 i hlt)
      have x7 := hE.cell (g7 i hlt)
      have y5 := g5 (i + n)
      have y0 : L ≤ i + n → ll.getD (i + n) 0 = 0 := fun h => getD_past (by rw [HLL.out]; omega)
      rw [hcf i hlt] at x6
      rw [htf i hlt] at x7
      have hA := fun w => add_ok w (hla i) (hla (i + n))
      have hS := fun w => sub_ok w (hla i) (hla (i + n))
      generalize (ll.getD i 0 + ll.getD (i + n) 0) % PP = s1 at *
      generalize (ll.getD i 0 + PP - ll.getD (i + n) 0) % PP = s2 at *
      generalize ll.getD (i + n) 0 = hv at *
      generalize ll.getD i 0 = lv at *
      have hin : (i : Int) + (n : Int) = ((i + n : Nat) : Int) := by omega
      have hmn : i + n ≤ 64 := by omega
      generalize i + n = m at *
      clear g5 g6 g7 hcf htf hal hla g4
      go_upto_if 99 with fail
      go_cut [17] from 89 to 145 (fun s17 wx => s17 = .int .u64 (hv : Int) ∧ wx = wr)
      case first =>
        clear hA hS x6 x7
        by_cases e : m < L
        · have y := hE.cell (y5 e)
          have e2 : (m : Int) < (L : Int) := by omega
          go_wp2_with fail
          go_meet
          exact ⟨rfl, rfl⟩
        · have e2 : ¬ (m : Int) < (L : Int) := by omega
          have hv0 := y0 (by omega)
          go_wp2_with fail
          go_meet
          exact ⟨by rw [hv0]; rfl, rfl⟩
      case rest =>
        obtain ⟨rfl, rfl⟩ := hcut
        have hiL : i < L := by omega
        clear y5 y0 hin hmn hL2 hL3 hL4
        go_wp2_with fail
        refine (hA _).mono ?_
        rintro z w8 ⟨rfl, hE8⟩
        have x5' := hE8.cell x5
        clear x5 hA
        go_wp2_with fail
        refine (hS _).mono ?_
        rintro z w9 ⟨rfl, hE9⟩
        clear x5' hS
        have x6' := (hE8.tr hE9).cell x6
        have x7' := (hE8.tr hE9).cell x7
        clear x6 x7
        go_wp2_with fail
        go_roundw
        case rel => exact ⟨i + 1, hlt, by go_num, hE.tr (hE8.tr hE9)⟩
        case measure => simp [intOf]; omega
    · obtain rfl : i = n := by omega
      clear g5 g6 g7 hcf htf hla hL2 hL3 hL4
      have h4 := hE.cell g4
      have haP := hal 0
      have hk1 : (k : Int).tmod 18446744069414584321 = ((k % PP : Nat) : Int) := by rw [Int.tmod_eq_emod_of_nonneg (by omega), PP_eq]; omega
      have hkP := Nat.mod_lt k PP_pos
      generalize k % PP = kk at *
      generalize a.getD 0 0 = av at *
      have hT1 := fun w => times_ok w haP hkP
      have hT2 := fun w => times_ok w hkP haP
      rw [Nat.mul_comm kk av] at hT2
      generalize av * kk % PP = s1 at *
      have h40 : wr.cell? ad4 = some (.int .u64 (av : Int)) := by rwa [add_nil] at h4
      clear hk hal g4
      go_wp2_with fail
      refine (hT1 _).mono ?_
      rintro z w8 ⟨rfl, hE8⟩
      replace h4 := hE8.cell h4
      replace h40 := hE8.cell h40
      clear hT1
      go_wp2_with fail
      refine (hT2 _).mono ?_
      rintro z w9 ⟨rfl, hE9⟩
      clear hT2 h4 h40
      have hE10 := (hE8.tr hE9)
      by_cases hk0 : kk = 0
      · subst hk0
        go_wp2_with fail
        refine (awake04_c _).mono ?_
        rintro z w10 ⟨rfl, hE11⟩
        go_wp2_with fail
        go_ret
        exact ⟨rfl, ((hE4.tr hE).tr hE10).tr hE11⟩
      · have hkp : (0 : Int) < (kk : Int) := by omega
        have hI := fun w => inv_ok w (by omega) hkP
        have hT3 := fun w => times_ok (a := kk ^ (PP - 2) % PP) w (Nat.mod_lt _ PP_pos) hkP
        rw [fermat_inv (by omega) hkP] at hT3
        generalize kk ^ (PP - 2) % PP = iv at *
        go_wp2_with fail
        refine (hI _).mono ?_
        rintro z w10 ⟨rfl, hE11⟩
        go_wp2_with fail
        refine (hT3 _).mono ?_
        rintro z w11 ⟨rfl, hE12⟩
        go_wp2_with fail
        refine (awake04_c _).mono ?_
        rintro z w12 ⟨rfl, hE13⟩
        go_wp2_with fail
        go_ret
        exact ⟨rfl, ((((hE4.tr hE).tr hE10).tr hE11).tr hE12).tr hE13⟩
end Go.Proofs.Ythbnkhgcfcigjaa
