/- NttProducts: the walk. -/
import Derived.Test.YthbnkhgcfcigjaaJR
import Derived.Test.YthbnkhgcfcigjaaJW
import Derived.Deep.CutRange
set_option linter.unusedVariables false
set_option linter.unusedSimpArgs false
namespace Go.Proofs.Ythbnkhgcfcigjaa
open Go.RowKit

theorem okT_eq (xs : List Nat) : okT xs = (lenB (xs.length : Int) && !bigB xs) := rfl
theorem okP_eq (xs ys : List Nat) : okP xs ys = (decide (xs.length = ys.length) && (okT xs && !bigB ys)) := rfl
theorem okL_eq (xs ys : List Nat) : okL xs ys = (decide (xs.length ≤ 32768) && (decide (ys.length ≤ 32768) && (!bigB xs && !bigB ys))) := rfl
theorem not_true : (!true) = false := rfl
theorem not_false' : (!false) = true := rfl
set_option maxHeartbeats 8000000 in
set_option maxRecDepth 100000 in
theorem nttProducts_c (A : Option Addr) (c : Nat) (xs : List Nat) (A' : Option Addr) (c' : Nat) (ys : List Nat) (w : World) (h : Rd w A c xs) (h' : Rd w A' c' ys) : Calls Try.prog 4 #[.slice A xs.length c, .slice A' ys.length c'] w fun e w' => e = .returned (.bool true) ∧ Ext w w' := by
  have hfw := few_c A c xs 34 w h (by omega)
  have hfv := fun w h' => few_c A' c' ys 34 w h' (by omega)
  have htm := fun w h => tame_c A c xs 4 w h (by omega)
  have hl34 : (xs.take 34).length ≤ 34 := by rw [List.length_take]; omega
  have hm34 : (ys.take 34).length ≤ 34 := by rw [List.length_take]; omega
  generalize xs.take 34 = a0 at *
  generalize ys.take 34 = b0 at *
  go_enter Try.func4, Try.ntmps4
  go_wp2_with fail
  refine hfw.mono ?_
  rintro z w1 ⟨v1, rfl, ho1, hE1⟩
  obtain ⟨A1, c1, rfl, hr1⟩ := ho1.rd
  go_wp2_with fail
  refine (hfv _ (h'.ext hE1)).mono ?_
  rintro z w2 ⟨v2, rfl, ho2, hE2⟩
  obtain ⟨B1, d1, rfl, hs1⟩ := ho2.rd
  go_wp2_with fail
  go_loopw [5, 6, 7] (fun v5 v6 v7 wr => ∃ (i : Nat) (A1 B1 : Option Addr) (c1 d1 : Nat) (a b : List Nat), i ≤ 2 ∧ v7 = .int .i64 (i : Int) ∧ v5 = .slice A1 a.length c1 ∧ v6 = .slice B1 b.length d1 ∧ Rd wr A1 c1 a ∧ Rd wr B1 d1 b ∧ a.length ≤ 34 ∧ b.length ≤ 34 ∧ Ext w wr) (fun _ _ v _ => 2 - (intOf v).toNat)
  case atStart => exact ⟨0, A1, B1, c1, d1, a0, b0, Nat.zero_le _, rfl, rfl, rfl, hr1.ext hE2, hs1, hl34, hm34, hE1.tr hE2⟩
  case round =>
    clear hr1 ho1 ho2 hs1 hfw hfv hl34 hm34 hE1 hE2
    obtain ⟨i, A2, B2, c2, d2, a, b, hi, rfl, rfl, rfl, hr, hs, hla, hlb, hE⟩ := hrel
    by_cases hlt : i < 2
    · have hR := fun w h h' => Round_c A2 B2 c2 d2 a b w h h'
      have hT := fun w h h' => Turned_c A2 B2 c2 d2 a b w h h'
      have hL := fun w h h' => Long_c A2 B2 c2 d2 a b w h h'
      have hQa := fun w h => rresidues04_c A2 c2 a w h
      have hQb := fun w h => rresidues04_c B2 d2 b w h
      have hLn := fun w => rlength04_c (a.length : Int) w
      obtain ⟨rL, hrL⟩ : ∃ rL, (if okP a b = true then cycL a b else []) = rL := ⟨_, rfl⟩
      obtain ⟨tL, htL⟩ : ∃ tL, (if okP a b = true then trL a b else []) = tL := ⟨_, rfl⟩
      obtain ⟨eR, heR⟩ : ∃ eR : Int, (if okP a b = true then 0 else 1) = eR := ⟨_, rfl⟩
      obtain ⟨lL, hlL⟩ : ∃ lL, (if okL a b = true then lgL a b else []) = lL := ⟨_, rfl⟩
      obtain ⟨eL, heL⟩ : ∃ eL : Int, (if okL a b = true then 0 else 1) = eL := ⟨_, rfl⟩
      rw [hrL, heR] at hR
      rw [htL, heR] at hT
      rw [hlL, heL] at hL
      obtain ⟨bA, hbA⟩ : ∃ bA, bigB a = bA := ⟨_, rfl⟩
      obtain ⟨bB, hbB⟩ : ∃ bB, bigB b = bB := ⟨_, rfl⟩
      rw [hbA] at hQa
      rw [hbB] at hQb
      go_wp2_with fail
      refine (hR _ hr hs).mono ?_
      rintro z w2 ⟨v2, rfl, ho2, hE2⟩
      obtain ⟨A3, c3, rfl, hr3⟩ := ho2.rd
      have qa2 := hr.ext hE2
      have qb2 := hs.ext hE2
      clear ho2
      go_wp2_with fail
      refine (hT _ qa2 qb2).mono ?_
      rintro z w3 ⟨v3, rfl, ho3, hE3⟩
      obtain ⟨A4, c4, rfl, hr4⟩ := ho3.rd
      have qa3 := qa2.ext hE3
      have qb3 := qb2.ext hE3
      have hr33 := hr3.ext hE3
      clear ho3 qa2 qb2 hr3
      go_wp2_with fail
      refine (hL _ qa3 qb3).mono ?_
      rintro z w4 ⟨v4, rfl, ho4, hE4⟩
      obtain ⟨A5, c5, rfl, hr5⟩ := ho4.rd
      have qa4 := qa3.ext hE4
      have qb4 := qb3.ext hE4
      have hr34 := hr33.ext hE4
      have hr44 := hr4.ext hE4
      have hEa := ((hE.tr hE2).tr hE3).tr hE4
      clear ho4 qa3 qb3 hr33 hr4 hE2 hE3 hE4
      go_upto_region 8 with fail
      go_cut [14] from 19 to 134 (fun s14 wx => s14 = .bool (!bA && !bB) ∧ wx = w4)
      case first =>
        cases bA with
        | true =>
          go_wp2_with fail
          refine (hQa _ qa4).mono ?_
          rintro z w5 ⟨rfl, rfl⟩
          go_wp2_with fail
          go_meet
          exact ⟨rfl, rfl⟩
        | false =>
          go_wp2_with fail
          refine (hQa _ qa4).mono ?_
          rintro z w5 ⟨rfl, rfl⟩
          go_wp2_with fail
          refine (hQb _ qb4).mono ?_
          rintro z w5 ⟨rfl, rfl⟩
          go_wp2_with fail
          go_meet
          exact ⟨by cases bB <;> rfl, rfl⟩
      case rest =>
        obtain ⟨rfl, rfl⟩ := hcut
        clear hQa hQb
        go_upto_region 9 with fail
        go_cut [61] from 19 to 134 (fun s61 wx => s61 = .bool (!okP a b) ∧ wx = wc)
        case first =>
          clear hR hT hL
          by_cases hok : bA = false ∧ bB = false
          · obtain ⟨rfl, rfl⟩ := hok
            by_cases hlen : a.length = b.length
            · have n1 : ((a.length : Int) != (b.length : Int)) = false := by rw [hlen]; simp
              have hp : (!lenB (a.length : Int)) = (!okP a b) := by rw [okP_eq, okT_eq, hbA, hbB, decide_eq_true hlen]; simp
              generalize lenB (a.length : Int) = bl at *
              have HP := Lib.hid hp
              clear hp hrL htL heR hlL heL hlen hbA hbB
              go_wp2_with fail
              refine (hLn _).mono ?_
              rintro z w5 ⟨rfl, rfl⟩
              go_wp2_with fail
              go_meet
              exact ⟨by rw [HP.out], rfl⟩
            · have n1 : ((a.length : Int) != (b.length : Int)) = true := by simp; omega
              have hp : okP a b = false := by rw [okP_eq, decide_eq_false hlen]; rfl
              have HP := Lib.hid hp
              clear hp hrL htL heR hlL heL hbA hbB
              go_wp2_with fail
              go_meet
              exact ⟨by rw [HP.out]; rfl, rfl⟩
          · have hbo : (!bA && !bB) = false := by revert hok; cases bA <;> cases bB <;> simp
            have hp : okP a b = false := by
              rw [okP_eq, okT_eq, hbA, hbB]
              revert hok
              cases bA <;> cases bB <;> simp
            have HP := Lib.hid hp
            clear hp hrL htL heR hlL heL hbA hbB hok
            go_wp2_with fail
            go_meet
            exact ⟨by rw [HP.out]; rfl, rfl⟩
        case rest =>
          obtain ⟨rfl, rfl⟩ := hcut
          go_upto_if 61 with fail
          go_cut [] from 19 to 134 (fun wx => Ext wc wx)
          case first =>
            clear hR hT hL
            cases hp : okP a b with
            | false =>
              rw [hp, if_neg Bool.false_ne_true] at hrL htL heR
              subst hrL htL heR
              have hnp : (!false) = true := rfl
              clear hp hbA hbB hlL heL
              go_wp2_with fail
              go_meet
              exact Ext.refl _
            | true =>
              rw [hp, if_pos rfl] at hrL htL heR
              subst heR
              have hp2 := hp
              rw [okP_eq, okT_eq, Bool.and_eq_true, Bool.and_eq_true, Bool.and_eq_true, decide_eq_true_eq, Bool.not_eq_true', Bool.not_eq_true'] at hp2
              obtain ⟨hlen, ⟨hlB, ha⟩, hb⟩ := hp2
              obtain ⟨n, hn⟩ : ∃ n, a.length = n := ⟨_, rfl⟩
              have hn0 : 0 < n := by
                obtain ⟨m, hm, e⟩ := lenB_pow hlB
                have := Nat.two_pow_pos m
                omega
              have eb : Value.slice B2 b.length d2 = Value.slice B2 a.length d2 := by rw [hlen]
              have hRR : ∀ w, Rd w A2 c2 a → Rd w B2 d2 b → Calls Try.prog 23 #[.slice A2 a.length c2, .slice B2 b.length d2] w (Res w (cycL a b)) := by
                intro w h h'
                rw [eb]
                exact rround04_c A2 B2 c2 d2 a b w h h' _ rfl hlen.symm (by omega) (by omega) (al_of_big ha) (al_of_big hb)
              have hRT : ∀ w, Rd w A2 c2 a → Rd w B2 d2 b → Calls Try.prog 24 #[.slice A2 a.length c2, .slice B2 b.length d2] w (Res w (trL a b)) := by
                intro w h h'
                rw [eb]
                exact rturned04_c A2 B2 c2 d2 a b w h h' _ rfl hlen.symm (by omega) (by omega) (al_of_big ha) (al_of_big hb)
              rw [hrL] at hRR
              rw [htL] at hRT
              have hS1 := fun A A' c c' w h h' => same04_c A A' c c' rL rL w h h'
              have hS2 := fun A A' c c' w h h' => same04_c A A' c c' tL tL w h h'
              simp only [decide_true] at hS1 hS2
              have hnp : (!true) = false := rfl
              clear hlL heL hrL htL hbA hbB hp hlen ha hb hlB eb hn hn0
              go_wp2_with fail
              refine (hRR _ qa4 qb4).mono ?_
              rintro z w6 ⟨v6, rfl, ho6, hE6⟩
              obtain ⟨A6, c6, rfl, hr6⟩ := ho6.rd
              go_wp2_with fail
              refine (hS1 _ _ _ _ _ (hr34.ext hE6) hr6).mono ?_
              rintro z w7 ⟨rfl, n7, rfl⟩
              have hE7 := hE6.drewN n7
              have qa6 := qa4.ext hE7
              have qb6 := qb4.ext hE7
              have hr46 := hr44.ext hE7
              clear hE6 ho6 hr6 hr5 hr44 hr34 qa4 qb4 hEa
              go_wp2_with fail
              refine (hRT _ qa6 qb6).mono ?_
              rintro z w7 ⟨v7, rfl, ho7, hE8⟩
              obtain ⟨A7, c7, rfl, hr7⟩ := ho7.rd
              go_wp2_with fail
              refine (hS2 _ _ _ _ _ (hr46.ext hE8) hr7).mono ?_
              rintro z w8 ⟨rfl, n8, rfl⟩
              have hE9 := hE8.drewN n8
              go_wp2_with fail
              go_meet
              exact hE7.tr hE9
          case rest =>
            replace qa4 := qa4.ext hcut
            replace qb4 := qb4.ext hcut
            replace hr5 := hr5.ext hcut
            replace hEa := hEa.tr hcut
            clear hrL htL heR hR hT hL hr34 hr44 hLn
            rename_i wd
            go_upto_region 14 with fail
            go_cut [123] from 19 to 134 (fun s123 wx => s123 = .bool false ∧ Ext wc wx)
            case first =>
              by_cases hok : bA = false ∧ bB = false
              · obtain ⟨rfl, rfl⟩ := hok
                have hq : okL a b = true := by rw [okL_eq, hbA, hbB, decide_eq_true (show a.length ≤ 32768 by omega), decide_eq_true (show b.length ≤ 32768 by omega)]; rfl
                rw [hq, if_pos rfl] at hlL heL
                subst heL
                have hRL := fun w h h' => rlong04_c A2 B2 c2 d2 a b w h h' (by omega) (by omega) (al_of_big hbA) (al_of_big hbB)
                rw [hlL] at hRL
                have hS3 := fun A A' c c' w h h' => same04_c A A' c c' lL lL w h h'
                simp only [decide_true] at hS3
                clear hq hlL
                go_wp2_with fail
                refine (hRL _ qa4 qb4).mono ?_
                rintro z w8 ⟨v8, rfl, ho8, hE8⟩
                obtain ⟨A8, c8, rfl, hr8⟩ := ho8.rd
                go_wp2_with fail
                refine (hS3 _ _ _ _ _ (hr5.ext hE8) hr8).mono ?_
                rintro z w9 ⟨rfl, n9, rfl⟩
                have hE9 := hE8.drewN n9
                go_wp2_with fail
                go_meet
                exact ⟨rfl, hE9⟩
              · have hbo : (!bA && !bB) = false := by revert hok; cases bA <;> cases bB <;> simp
                have hq : okL a b = false := by
                  rw [okL_eq, hbA, hbB, hbo]; simp
                rw [hq, if_neg Bool.false_ne_true] at hlL heL
                subst hlL heL
                clear hq hbA hbB hbo
                have hor : bA = true ∨ (bA = false ∧ bB = true) := by revert hok; cases bA <;> cases bB <;> simp
                clear hok
                rcases hor with rfl | ⟨rfl, rfl⟩
                · have hbo : (!true && !bB) = false := rfl
                  go_wp2_with fail
                  go_meet
                  exact ⟨rfl, Ext.refl _⟩
                · have hbo : (!false && !true) = false := rfl
                  go_wp2_with fail
                  go_meet
                  exact ⟨rfl, Ext.refl _⟩
            case rest =>
              obtain ⟨rfl, hcut⟩ := hcut
              replace hEa := hEa.tr hcut
              clear hlL heL qa4 qb4 hr5 hbA hbB hr hs hcut
              go_wp2_with fail
              refine (htm _ (h.ext hEa)).mono ?_
              rintro z w10 ⟨k10, hk10, v10, rfl, ho10, hE10⟩
              obtain ⟨A10, c10, rfl, hr10⟩ := ho10.rd
              have hN16 : (rsL xs (2 ^ k10)).length ≤ 16 := by rw [rsL_len]; have := Nat.pow_le_pow_right (n := 2) (by omega) hk10; omega
              generalize rsL xs (2 ^ k10) = ra at *
              clear ho10
              obtain ⟨N, hN⟩ : ∃ N, ra.length = N := ⟨_, rfl⟩
              rw [hN]
              have HN := Lib.hid hN
              rw [hN] at hN16
              clear hN
              have hEd := hEa.tr hE10
              have hrs := fun w h => residues_c A' c' ys N w h (by omega)
              have hsl := sdL_len ys N
              have HSL := Lib.hid hsl
              have hle11 : (rsL ys (min ys.length N)).length ≤ N := by rw [rsL_len]; omega
              have hsd : padT (rsL ys (min ys.length N)) N = sdL ys N := rfl
              have HSD := Lib.hid hsd
              clear hsl hsd
              generalize rsL ys (min ys.length N) = rb at *
              go_wp2_with (at_make; refine wp_make rfl _ _ _ rfl Try.underlying30 N _ rfl rfl rfl (by omega) ?_; intro g w11 hg11 hb11 he11)
              refine (hrs _ ((h'.ext hEd).ext he11)).mono ?_
              rintro z w12 ⟨v12, rfl, ho12, hE12⟩
              obtain ⟨A12, c12, rfl, hr12⟩ := ho12.rd
              have hb12 := hb11.ext hE12
              clear ho12 hb11
              go_wp2_with ((with_reducible refine wp_copyw rfl (.tmp 129) (.tmp 133) 30 30 rfl Try.underlying30 g N N rfl hb12 A12 rb.length c12 rb rfl rfl hr12 hle11 ?_); intro w13 hb13 hg13)
              have hE13 := hg13.ext (he11.tr hE12) hg11
              rw [HSD.out] at hb13
              go_roundw
              case rel => exact ⟨i + 1, A10, _, c10, _, ra, sdL ys N, hlt, by go_num, by rw [HN.out], by rw [HSL.out], hr10.ext hE13, hb13.rd (by rw [HSL.out]; omega) (Nat.le_of_eq HSL.out), by rw [HN.out]; omega, by rw [HSL.out]; omega, hEd.tr hE13⟩
              case measure => simp [intOf]; omega
    · obtain rfl : i = 2 := by omega
      go_wp2_with fail
      refine (awake04_c _).mono ?_
      rintro z w3 ⟨rfl, hE3⟩
      go_wp2_with fail
      go_ret
      exact ⟨rfl, hE.tr hE3⟩
end Go.Proofs.Ythbnkhgcfcigjaa
