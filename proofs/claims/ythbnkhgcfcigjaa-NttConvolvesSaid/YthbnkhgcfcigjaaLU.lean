/- NttConvolves: the walk. -/
import Derived.Test.YthbnkhgcfcigjaaJZ
import Derived.Test.YthbnkhgcfcigjaaLT
import Derived.Test.YthbnkhgcfcigjaaQ0
set_option linter.unusedVariables false
set_option linter.unusedSimpArgs false
namespace Go.Proofs.Ythbnkhgcfcigjaa
open Go.RowKit

theorem PPm1 : ((PP - 1 : Nat) : Int) = 18446744069414584320 := by decide +kernel
theorem half_B {j : Nat} (h : j ≤ 64) : j / 2 < B := by rw [B_eq]; omega
theorem le_B {j : Nat} (h : j ≤ 64) : j < B := by rw [B_eq]; omega
theorem le_PP {j : Nat} (h : j ≤ 64) : j < PP := by rw [PP_eq]; omega
theorem okT_yes {xs : List Nat} {m : Nat} (hm : m ≤ 16) (h1 : xs.length = 2 ^ m) (h3 : Al xs) : okT xs = true := by
  unfold okT
  rw [big_of_al h3, h1, lenB_of hm]
  rfl
/-- Transform and Back of a list of a good length. -/
theorem trans_ok {m n : Nat} {xs : List Nat} (hm : m ≤ 16) (hn : 2 ^ m = n) (h1 : xs.length = n) (h3 : Al xs) (A : Option Addr) (c : Nat) (w : World) (h : Rd w A c xs) :
    Calls Try.prog 28 #[.slice A n c] w (LR w (dftL (rootN n) xs) 0) := by
  have h2 : n ≤ 65536 := hn ▸ Nat.pow_le_pow_right (n := 2) (by omega) hm
  have q := Transform_c A c xs w h (by omega)
  rw [okT_yes hm (h1.trans hn.symm) h3, if_pos rfl, if_pos rfl, h1] at q
  exact q
theorem back_ok {m n : Nat} {xs : List Nat} (hm : m ≤ 16) (hn : 2 ^ m = n) (h1 : xs.length = n) (h3 : Al xs) (A : Option Addr) (c : Nat) (w : World) (h : Rd w A c xs) :
    Calls Try.prog 35 #[.slice A n c] w (LR w (bkL xs) 0) := by
  have h2 : n ≤ 65536 := hn ▸ Nat.pow_le_pow_right (n := 2) (by omega) hm
  have q := Back_c A c xs w h (by omega)
  rw [okT_yes hm (h1.trans hn.symm) h3, if_pos rfl, if_pos rfl, h1] at q
  exact q
theorem same_ok {n : Nat} {xs : List Nat} (h1 : xs.length = n) (A A' : Option Addr) (c c' : Nat) (w : World) (h : Rd w A c xs) (h' : Rd w A' c' xs) :
    Calls Try.prog 22 #[.slice A n c, .slice A' n c'] w fun e w' => e = .returned (.bool true) ∧ ∃ n, w' = w.drewN n := by
  have q := same04_c A A' c c' xs xs w h h'
  rw [decide_eq_true rfl, h1] at q
  exact q
theorem pow_ok {a k r : Nat} (w : World) (ha : a < PP) (hk : k < B) (hr : a ^ k % PP = r) : Calls Try.prog 46 #[.int .u64 (a : Int), .int .u64 (k : Int)] w fun e w' => e = .returned (.tuple #[.int .u64 (r : Int), .int .i64 0]) ∧ Ext w w' := by
  have q := Pow_c a k w (Nat.lt_trans ha PP_lt_B) hk
  rw [decide_eq_true ha, hr] at q
  unfold opR at q
  rw [if_pos rfl, if_pos rfl] at q
  exact q
theorem root_ok {n m : Nat} (w : World) (hm : m ≤ 16) (hn : 2 ^ m = n) : Calls Try.prog 13 #[.int .i64 (n : Int)] w fun e w' => e = .returned (.tuple #[.int .u64 (rootN n : Int), .int .i64 0]) ∧ w = w' := by
  have q := Root_c (n : Int) w
  have hl : lenB (n : Int) = true := hn ▸ lenB_of hm
  unfold rtV rtE at q
  rw [if_pos hl, if_pos hl, Int.toNat_natCast] at q
  exact q
set_option maxHeartbeats 8000000 in
set_option maxRecDepth 100000 in
theorem nttConvolves_c (A : Option Addr) (c : Nat) (xs : List Nat) (A' : Option Addr) (c' : Nat) (ys : List Nat) (w : World) (h : Rd w A c xs) (h' : Rd w A' c' ys) :
    Calls Try.prog 11 #[.slice A xs.length c, .slice A' ys.length c'] w fun e w' => e = .returned (.bool true) ∧ Ext w w' := by
  have htm := tame_c A c xs 6 w h (by omega)
  go_enter Try.func11, Try.ntmps11
  go_wp2_with fail
  refine htm.mono ?_
  rintro z w1 ⟨k1, hk1, v1, rfl, ho1, hE1⟩
  obtain ⟨A1, c1, rfl, hr1⟩ := ho1.rd
  have hal := rsL_al xs (2 ^ k1)
  have hlen := rsL_len xs (2 ^ k1)
  generalize rsL xs (2 ^ k1) = a at *
  have hn32 : 2 ^ k1 ≤ 64 := Nat.pow_le_pow_right (n := 2) (by omega) hk1
  have hn0 := Nat.two_pow_pos k1
  have hsl := sdL_len ys (2 ^ k1)
  have hsa := sdL_al ys (2 ^ k1)
  have hOK := okP_yes (m := k1) (by omega) hlen hsl hal hsa
  have hk16 : k1 ≤ 16 := by omega
  have hk32 : k1 ≤ 32 := by omega
  have hfc : ∀ i, i < 2 ^ k1 → dft (rootN (2 ^ k1)) (cycL a (sdL ys (2 ^ k1))) i = dft (rootN (2 ^ k1)) a i * dft (rootN (2 ^ k1)) (sdL ys (2 ^ k1)) i % PP := fun i hi => dft_cyc hk32 hlen hsl hi
  have hft : ∀ i, i < 2 ^ k1 → dft (rootN (2 ^ k1)) (dftL (rootN (2 ^ k1)) a) i = a.getD ((2 ^ k1 - i) % 2 ^ k1) 0 * 2 ^ k1 % PP := fun i hi => dft_two hk32 hlen hi
  have hbk := bk_dft hk32 hlen hal
  have hro := root_one hk32
  have hrh := fun h0 => root_half hk32 h0
  have hk0 : k1 = 0 → 2 ^ k1 = 1 := fun h => by rw [h]
  obtain ⟨n, hn⟩ : ∃ n, 2 ^ k1 = n := ⟨_, rfl⟩
  rw [hn] at hlen hsl hsa hOK hfc hft hro hrh hk0 hn32 hn0 hbk
  have hsd : padT (rsL ys (min ys.length n)) n = sdL ys n := rfl
  have hle11 : (rsL ys (min ys.length n)).length ≤ n := by rw [rsL_len]; omega
  have hrs := fun w h => residues_c A' c' ys n w h (by omega)
  generalize rsL ys (min ys.length n) = rb at *
  generalize sdL ys n = b at *
  have hfs : ∀ i, dft (rootN n) (suL a b n) i = (dft (rootN n) a i + dft (rootN n) b i) % PP := fun i => dft_sum hlen hsl i
  have hRo : ∀ A' c' w, Rd w A1 c1 a → Rd w A' c' b → Calls Try.prog 18 #[.slice A1 n c1, .slice A' n c'] w (LR w (cycL a b) 0) := by
    intro A' c' w h h'
    have q := Round_c A1 A' c1 c' a b w h h'
    rw [hOK, if_pos rfl, if_pos rfl, hlen, hsl] at q
    exact q
  have hcl : (cycL a b).length = n := by rw [cycL_len, hlen]
  have hpl : (dftL (rootN n) a).length = n := by rw [dftL_len, hlen]
  have hql : (dftL (rootN n) b).length = n := by rw [dftL_len, hsl]
  have hTa := trans_ok hk16 hn hlen hal
  have hTb := trans_ok hk16 hn hsl hsa
  have hTc := trans_ok hk16 hn hcl (cycL_al a b)
  have hTs := trans_ok hk16 hn (suL_len a b n) (suL_al a b n)
  have hTp := trans_ok hk16 hn hpl (dftL_al _ _)
  have hBp := back_ok hk16 hn hpl (dftL_al _ _)
  rw [hbk] at hBp
  have hSa := same_ok hlen
  have hRt := fun w => root_ok w hk16 hn
  rw [hlen]
  have HLEN := Lib.hid hlen
  have HSL := Lib.hid hsl
  have HSD := Lib.hid hsd
  have HCL := Lib.hid hcl
  have HPL := Lib.hid hpl
  have HQL := Lib.hid hql
  have HN := Lib.hid hn
  have HRO := Lib.hid hro
  have HK0 := Lib.hid hk0
  clear hlen hsl hsd hcl hpl hql hOK htm ho1 hn hbk hro hk0
  go_wp2_with (at_make; refine wp_make rfl _ _ _ rfl Try.underlying30 n _ rfl rfl rfl (by omega) ?_; intro g w2 hg2 hb2 he2)
  refine (hrs _ ((h'.ext hE1).ext he2)).mono ?_
  rintro z w3 ⟨v3, rfl, ho3, hE3⟩
  obtain ⟨A3, c3, rfl, hr3⟩ := ho3.rd
  have hb3 := hb2.ext hE3
  clear ho3 hb2
  go_wp2_with ((with_reducible refine wp_copyw rfl (.tmp 45) (.tmp 48) 30 30 rfl Try.underlying30 g n n rfl hb3 A3 rb.length c3 rb rfl rfl hr3 hle11 ?_); intro w4 hb4 hg4)
  have hE4 := hE1.tr (hg4.ext (he2.tr hE3) hg2)
  have hr4 := hr1.ext (hg4.ext (he2.tr hE3) hg2)
  rw [HSD.out] at hb4
  have hq4 := hb4.rd (by rw [HSL.out]; omega) (Nat.le_of_eq HSL.out)
  clear hb4 hr3 hb3 hrs hle11 hr1 hE1 hE3 he2 hg4
  refine (hTa _ _ _ hr4).mono ?_
  rintro z w5 ⟨v5, rfl, ho5, hE5⟩
  obtain ⟨A5, c5, rfl, hr5⟩ := ho5.rd
  replace hr4 := hr4.ext hE5
  replace hq4 := hq4.ext hE5
  replace hE4 := hE4.tr hE5
  rw [HPL.out]
  clear ho5 hE5 hTa
  go_wp2_with fail
  refine (hTb _ _ _ hq4).mono ?_
  rintro z w6 ⟨v6, rfl, ho6, hE6⟩
  obtain ⟨A6, c6, rfl, hr6⟩ := ho6.rd
  replace hr4 := hr4.ext hE6
  replace hr5 := hr5.ext hE6
  replace hq4 := hq4.ext hE6
  replace hE4 := hE4.tr hE6
  rw [HQL.out]
  clear ho6 hE6 hTb
  go_wp2_with fail
  refine (hRo _ _ _ hr4 hq4).mono ?_
  rintro z w7 ⟨v7, rfl, ho7, hE7⟩
  obtain ⟨A7, c7, rfl, hr7⟩ := ho7.rd
  replace hr4 := hr4.ext hE7
  replace hr5 := hr5.ext hE7
  replace hr6 := hr6.ext hE7
  replace hq4 := hq4.ext hE7
  replace hE4 := hE4.tr hE7
  rw [HCL.out]
  clear ho7 hE7 hRo
  go_wp2_with fail
  refine (hTc _ _ _ hr7).mono ?_
  rintro z w8 ⟨v8, rfl, ho8, hE8⟩
  obtain ⟨A8, c8, rfl, hr8⟩ := ho8.rd
  replace hr4 := hr4.ext hE8
  replace hr5 := hr5.ext hE8
  replace hr6 := hr6.ext hE8
  replace hq4 := hq4.ext hE8
  replace hE4 := hE4.tr hE8
  have hcl2 : (dftL (rootN n) (cycL a b)).length = n := by rw [dftL_len, HCL.out]
  rw [hcl2]
  clear ho8 hE8 hTc hr7 hcl2
  have ga : ∀ i, i < n → ∃ ad, A1 = some ad ∧ w8.cell? (ad.add i) = some (.int .u64 (a.getD i 0 : Nat)) := fun i hi => hr4.cell i (by rw [HLEN.out]; exact hi)
  obtain ⟨ad1, rfl⟩ := hr4.addr (by rw [HLEN.out]; omega)
  have g4 : ∀ i, i < n → w8.cell? (ad1.add i) = some (.int .u64 (a.getD i 0 : Nat)) := fun i hi => hr4.get i (by rw [HLEN.out]; exact hi)
  have gq : ∀ i, i < n → w8.cell? ((⟨g, 0, none⟩ : Addr).add i) = some (.int .u64 (b.getD i 0 : Nat)) := fun i hi => hq4.get i (by rw [HSL.out]; exact hi)
  clear ga hq4 h h'
  go_wp2_with fail
  go_loopw [16, 17] (fun v16 v17 wr => ∃ (i : Nat), i ≤ n ∧ v17 = .int .i64 (i : Int) ∧ Own wr w8.heap.size v16 (tab i fun i => (a.getD i 0 + b.getD i 0) % PP) ∧ Ext w8 wr) (fun _ v _ => n - (intOf v).toNat)
  case atStart => exact ⟨0, Nat.zero_le _, rfl, Own.nil _ _, Ext.refl _⟩
  case round =>
    obtain ⟨i, hi, rfl, hso, hE⟩ := hrel
    by_cases hlt : i < n
    · have x1 := hE.cell (g4 i hlt)
      have x2 := hE.cell (gq i hlt)
      rw [add_zero'] at x2
      have hA := fun w => add_ok w (hal i) (hsa i)
      have hsn := tab_snoc i fun i => (a.getD i 0 + b.getD i 0) % PP
      have hil := tab_len i fun i => (a.getD i 0 + b.getD i 0) % PP
      have hsB : (a.getD i 0 + b.getD i 0) % PP < B := Nat.lt_trans (Nat.mod_lt _ PP_pos) PP_lt_B
      have hlt2 : (i : Int) < (n : Int) := by omega
      generalize (a.getD i 0 + b.getD i 0) % PP = sv at *
      generalize a.getD i 0 = av at *
      generalize b.getD i 0 = bv at *
      have HSN := Lib.hid hsn
      have HIL := Lib.hid hil
      have HO := Lib.hid hso
      have q1 := Later.cell x1
      have q2 := Later.cell x2
      have hsz := hE.size
      clear hsn hil hso x1 x2 g4 gq hfc hft hfs hTs hTp hBp hSa hRt hrh hr4 hr5 hr6 hr8
      generalize (tab i fun i => (a.getD i 0 + b.getD i 0) % PP) = ss at *
      go_wp2_with fail
      refine wp_region_later (by kernel_rfl) (by kernel_rfl) ?_
      repeat (go_big_quiet_step (first
        | (go_at_call 39; (with_reducible refine Calls.later (hA _)))))
      refine wpQuiet_nil ?_
      intro wq hw'
      obtain ⟨⟨w9, hE9⟩, hw9⟩ := hw'
      replace hw9 : wq = w9 := hw9
      rw [hw9]
      clear hw9 wq q1 q2 hA
      have hsz9 := hE9.size
      have HO9 := Lib.hid ((HO.out.ext hE9).ext ((Ext.refl _).al (.cells #[.int .u64 (sv : Int)] 22)))
      go_wp2_with (first
        | (at_builtin; refine wp_append rfl _ _ _ rfl Try.underlying30 w8.heap.size _ ss rfl HO9.out (some ⟨w9.heap.size, 0, none⟩) 1 1 [sv] rfl rfl (Rd.nw1 w9 sv hsB) ?hb ?hl ?_; (case hb => simp; omega); (case hl => have := HIL.out; simp; omega); intro v' w10 ho10 hb10 hat hg10; have hE10 : Ext w8 w10 := ((hE.tr hE9).al _).trans hb10; clear hat hg10 hb10))
      go_roundw
      case rel => exact ⟨i + 1, hlt, by go_num, by rw [← HSN.out]; exact ho10, hE10⟩
      case measure => simp [intOf]; omega
    · obtain rfl : i = n := by omega
      replace hso : Own wr w8.heap.size _ (suL a b i) := hso
      obtain ⟨A9, c9, rfl, hr9⟩ := hso.rd
      replace hr4 := hr4.ext hE
      replace hr5 := hr5.ext hE
      replace hr6 := hr6.ext hE
      replace hr8 := hr8.ext hE
      replace hE4 := hE4.tr hE
      rw [suL_len]
      clear hso hE gq g4
      go_wp2_with fail
      refine (hTs _ _ _ hr9).mono ?_
      rintro z w10 ⟨v10, rfl, ho10, hE10⟩
      obtain ⟨A10, c10, rfl, hr10⟩ := ho10.rd
      rw [dftL_len, suL_len]
      replace hr4 := hr4.ext hE10
      replace hr5 := hr5.ext hE10
      replace hr6 := hr6.ext hE10
      replace hr8 := hr8.ext hE10
      replace hE4 := hE4.tr hE10
      clear ho10 hE10 hTs hr9
      go_wp2_with fail
      refine (hTp _ _ _ hr5).mono ?_
      rintro z w11 ⟨v11, rfl, ho11, hE11⟩
      obtain ⟨A11, c11, rfl, hr11⟩ := ho11.rd
      rw [dftL_len, HPL.out]
      replace hr4 := hr4.ext hE11
      replace hr5 := hr5.ext hE11
      replace hr6 := hr6.ext hE11
      replace hr8 := hr8.ext hE11
      replace hr10 := hr10.ext hE11
      replace hE4 := hE4.tr hE11
      clear ho11 hE11 hTp
      go_wp2_with fail
      refine (hBp _ _ _ hr5).mono ?_
      rintro z w12 ⟨v12, rfl, ho12, hE12⟩
      obtain ⟨A12, c12, rfl, hr12⟩ := ho12.rd
      rw [HLEN.out]
      replace hr4 := hr4.ext hE12
      replace hr5 := hr5.ext hE12
      replace hr6 := hr6.ext hE12
      replace hr8 := hr8.ext hE12
      replace hr10 := hr10.ext hE12
      replace hr11 := hr11.ext hE12
      replace hE4 := hE4.tr hE12
      clear ho12 hE12 hBp
      go_wp2_with fail
      refine (hSa _ _ _ _ _ hr12 hr4).mono ?_
      rintro z w13 ⟨rfl, n13, rfl⟩
      replace hr4 := hr4.drewN n13
      replace hr5 := hr5.drewN n13
      replace hr6 := hr6.drewN n13
      replace hr8 := hr8.drewN n13
      replace hr10 := hr10.drewN n13
      replace hr11 := hr11.drewN n13
      replace hE4 := hE4.drewN n13
      clear hr12 hSa
      generalize w12.drewN n13 = wz at *
      have hcl := HCL.out
      have hal' := HLEN.out
      have hbl' := HSL.out
      have hpl' := HPL.out
      obtain ⟨ad5, rfl⟩ := hr5.addr (by rw [dftL_len]; omega)
      obtain ⟨ad6, rfl⟩ := hr6.addr (by rw [dftL_len]; omega)
      obtain ⟨ad8, rfl⟩ := hr8.addr (by rw [dftL_len]; omega)
      obtain ⟨ad10, rfl⟩ := hr10.addr (by rw [dftL_len, suL_len]; omega)
      obtain ⟨ad11, rfl⟩ := hr11.addr (by rw [dftL_len, dftL_len]; omega)
      have g4 : ∀ j, j < i → wz.cell? (ad1.add j) = some (.int .u64 (a.getD j 0 : Nat)) := fun j hj => hr4.get j (by omega)
      have g5 : ∀ j, j < i → wz.cell? (ad5.add j) = some (.int .u64 (dft (rootN i) a j : Nat)) := fun j hj => by
        have q := hr5.get j (by rw [dftL_len]; omega)
        rwa [dftL_get _ _ (by omega)] at q
      have g6 : ∀ j, j < i → wz.cell? (ad6.add j) = some (.int .u64 (dft (rootN i) b j : Nat)) := fun j hj => by
        have q := hr6.get j (by rw [dftL_len]; omega)
        rwa [dftL_get _ _ (by omega)] at q
      have g8 : ∀ j, j < i → wz.cell? (ad8.add j) = some (.int .u64 ((dft (rootN i) a j * dft (rootN i) b j % PP : Nat) : Int)) := fun j hj => by
        have q := hr8.get j (by rw [dftL_len]; omega)
        rwa [dftL_get _ _ (by omega), hfc j hj] at q
      have g10 : ∀ j, j < i → wz.cell? (ad10.add j) = some (.int .u64 (((dft (rootN i) a j + dft (rootN i) b j) % PP : Nat) : Int)) := fun j hj => by
        have q := hr10.get j (by rw [dftL_len, suL_len]; omega)
        rwa [dftL_get _ _ (by rw [suL_len]; omega), hfs j] at q
      have g11 : ∀ j, j < i → wz.cell? (ad11.add j) = some (.int .u64 ((a.getD ((i - j) % i) 0 * i % PP : Nat) : Int)) := fun j hj => by
        have q := hr11.get j (by rw [dftL_len, dftL_len]; omega)
        rwa [dftL_get _ _ (by rw [dftL_len]; omega), hft j hj] at q
      have hdP : ∀ (l : List Nat) (j : Nat), dft (rootN i) l j < PP := fun l j => Nat.mod_lt _ PP_pos
      clear hr4 hr5 hr6 hr8 hr10 hr11 hfc hfs hft hcl hal' hbl' hpl'
      go_wp2_with fail
      go_loopw [26] (fun v26 wr => ∃ (j : Nat), j ≤ i ∧ v26 = .int .i64 (j : Int) ∧ Ext wz wr) (fun v _ => i - (intOf v).toNat)
      case atStart => exact ⟨0, Nat.zero_le _, rfl, Ext.refl _⟩
      case round =>
        obtain ⟨j, hj, rfl, hE⟩ := hrel
        by_cases hlt : j < i
        · have x5 := hE.cell (g5 j hlt)
          have x6 := hE.cell (g6 j hlt)
          have x8 := hE.cell (g8 j hlt)
          have x10 := hE.cell (g10 j hlt)
          have x11 := hE.cell (g11 j hlt)
          have hee : (i - j) % i < i := Nat.mod_lt _ hn0
          have x4 := hE.cell (g4 _ hee)
          have iP := le_PP hn32
          have hT := fun w => times_ok w (hdP a j) (hdP b j)
          have hA := fun w => add_ok w (hdP a j) (hdP b j)
          have hU := fun w => times_ok w (hal ((i - j) % i)) iP
          have hrem : ((i : Int) - (j : Int)).tmod (i : Int) = (((i - j) % i : Nat) : Int) := by
            rw [show (i : Int) - (j : Int) = ((i - j : Nat) : Int) by omega, Int.tmod_eq_emod_of_nonneg (by omega), Int.natCast_emod]
          have hi0 : ((i : Int) == 0) = false := by rw [beq_eq_false_iff_ne]; omega
          have hee2 : (((i - j) % i : Nat) : Int) < (i : Int) := by omega
          have hlt2 : (j : Int) < (i : Int) := by omega
          have hcv : IntKind.u64.wrap (i : Int) = (i : Int) := by rw [IntKind.wrap_u64]; omega
          generalize dft (rootN i) a j * dft (rootN i) b j % PP = s1 at *
          generalize (dft (rootN i) a j + dft (rootN i) b j) % PP = s2 at *
          generalize a.getD ((i - j) % i) 0 * i % PP = s3 at *
          generalize a.getD ((i - j) % i) 0 = av at *
          generalize dft (rootN i) a j = p1 at *
          generalize dft (rootN i) b j = p2 at *
          generalize (i - j) % i = ee at *
          have q5 := Later.cell x5
          have q6 := Later.cell x6
          have X5 := Lib.hid x5
          have X6 := Lib.hid x6
          clear g4 g5 g6 g8 g10 g11 x5 x6 hal hsa hRt hrh hdP iP
          go_wp2_with fail
          refine wp_region_later (by kernel_rfl) (by kernel_rfl) ?_
          repeat (go_big_quiet_step (first
            | (go_at_call 41; (with_reducible refine Calls.later (hT _)))))
          refine wpQuiet_nil ?_
          intro wq hw'
          obtain ⟨⟨w20, hE20⟩, hw20⟩ := hw'
          replace hw20 : wq = w20 := hw20
          rw [hw20]
          clear hw20 wq q5 q6 hT
          have q5 := Later.cell (hE20.cell X5.out)
          have q6 := Later.cell (hE20.cell X6.out)
          go_upto_region 26 with fail
          refine wp_region_later (by kernel_rfl) (by kernel_rfl) ?_
          repeat (go_big_quiet_step (first
            | (go_at_call 39; (with_reducible refine Calls.later (hA _)))))
          refine wpQuiet_nil ?_
          intro wq hw'
          obtain ⟨⟨w21, hE21⟩, hw21⟩ := hw'
          replace hw21 : wq = w21 := hw21
          rw [hw21]
          clear hw21 wq q5 q6 hA
          have hE22 := hE20.tr hE21
          replace x4 := hE22.cell x4
          replace x8 := hE22.cell x8
          replace x10 := hE22.cell x10
          replace x11 := hE22.cell x11
          go_wp2_with fail
          refine (hU _).mono ?_
          rintro z w23 ⟨rfl, hE23⟩
          replace x8 := hE23.cell x8
          replace x10 := hE23.cell x10
          replace x11 := hE23.cell x11
          clear x4 hU
          go_wp2_with fail
          go_roundw
          case rel => exact ⟨j + 1, hlt, by go_num, hE.tr (hE22.tr hE23)⟩
          case measure => simp [intOf]; omega
        · obtain rfl : j = i := by omega
          have hiP : rootN j < PP := rootN_lt j
          have hcv : IntKind.u64.wrap (j : Int) = (j : Int) := by rw [IntKind.wrap_u64]; omega
          have hP1 := fun w => pow_ok w hiP (le_B hn32) HRO.out
          have hdv : (j : Int).tdiv 2 = ((j / 2 : Nat) : Int) := by rw [Int.tdiv_eq_ediv_of_nonneg (by omega)]; omega
          have hcv2 : IntKind.u64.wrap ((j / 2 : Nat) : Int) = ((j / 2 : Nat) : Int) := by rw [IntKind.wrap_u64]; omega
          have hcw : wrap64 ((j / 2 : Nat) : Int) = ((j / 2 : Nat) : Int) := by unfold wrap64; omega
          have hE30 := hE4.tr hE
          have h2B := half_B hn32
          by_cases h1 : k1 = 0
          · have hj1 := HK0.out h1
            have hP2 := fun w => pow_ok w hiP h2B rfl
            have hj2 : ((j : Int) == 1) = true := by rw [beq_iff_eq]; omega
            generalize rootN j ^ (j / 2) % PP = hf at *
            generalize rootN j = ro at *
            generalize j / 2 = j2 at *
            clear hj1
            clear g4 g5 g6 g8 g10 g11 hal hsa hrh hdP h1 hE hE4 h2B hiP
            go_wp2_with fail
            refine (hRt _).mono ?_
            rintro z w20 ⟨rfl, rfl⟩
            go_wp2_with fail
            refine (hP1 _).mono ?_
            rintro z w21 ⟨rfl, hE21⟩
            go_wp2_with fail
            refine (hP2 _).mono ?_
            rintro z w22 ⟨rfl, hE22⟩
            clear hP1 hP2 hRt
            go_wp2_with fail
            refine (awake04_c _).mono ?_
            rintro z w23 ⟨rfl, hE23⟩
            go_wp2_with fail
            go_ret
            exact ⟨rfl, ((hE30.tr hE21).tr hE22).tr hE23⟩
          · have hP2 := fun w => pow_ok w hiP h2B (hrh h1)
            rw [PPm1] at hP2
            generalize rootN j = ro at *
            generalize j / 2 = j2 at *
            by_cases hj2 : (j : Int) = 1
            · have hj3 : ((j : Int) == 1) = true := by rw [beq_iff_eq]; omega
              clear hj2
              clear g4 g5 g6 g8 g10 g11 hal hsa hrh hdP h1 hE hE4 h2B hiP
              go_wp2_with fail
              refine (hRt _).mono ?_
              rintro z w20 ⟨rfl, rfl⟩
              go_wp2_with fail
              refine (hP1 _).mono ?_
              rintro z w21 ⟨rfl, hE21⟩
              go_wp2_with fail
              refine (hP2 _).mono ?_
              rintro z w22 ⟨rfl, hE22⟩
              clear hP1 hP2 hRt
              go_wp2_with fail
              refine (awake04_c _).mono ?_
              rintro z w23 ⟨rfl, hE23⟩
              go_wp2_with fail
              go_ret
              exact ⟨rfl, ((hE30.tr hE21).tr hE22).tr hE23⟩
            · have hj3 : ((j : Int) == 1) = false := by rw [beq_eq_false_iff_ne]; exact hj2
              clear g4 g5 g6 g8 g10 g11 hal hsa hrh hdP h1 hE hE4 h2B hiP
              go_wp2_with fail
              refine (hRt _).mono ?_
              rintro z w20 ⟨rfl, rfl⟩
              go_wp2_with fail
              refine (hP1 _).mono ?_
              rintro z w21 ⟨rfl, hE21⟩
              go_wp2_with fail
              refine (hP2 _).mono ?_
              rintro z w22 ⟨rfl, hE22⟩
              clear hP1 hP2 hRt
              go_wp2_with fail
              refine (awake04_c _).mono ?_
              rintro z w23 ⟨rfl, hE23⟩
              go_wp2_with fail
              go_ret
              exact ⟨rfl, ((hE30.tr hE21).tr hE22).tr hE23⟩
end Go.Proofs.Ythbnkhgcfcigjaa
