/- package format: Encode, where it hands back a number. -/
import Derived.Test.YtlnfmngginihfaaGreatDoorF7
set_option linter.unusedVariables false
set_option linter.unusedSimpArgs false
namespace Go.Proofs.YtlnfmngginihfaaGreatDoor
open Go.RowKit
attribute [local go_sem ↓] Go.wp_at_zero Go.wp_at_succ
set_option maxHeartbeats 8000000 in
set_option maxRecDepth 100000 in
theorem encode_good (k p : Int) (a : FA) (w : World) (hT : Tab w) (h : Rd w a.A a.c a.xs) (hR : Rgt k p) (hl : a.xs.length ≤ 4096) (f : Fl) (hcan : a.can = some f) (hin : InF k p f) (hfl : FlsS k p [a] = (0, [f])) :
    Calls Tryz.prog 51 #[.agg #[.int .i64 k, .int .i64 p], a.v] w (NatR w 0 (encS k p f)) := by
  obtain ⟨hE, hF, hX, hfls⟩ := boxes3 w k p a hT h _ rfl
  rw [hfl] at hfls
  have hok := canon_ok hcan
  obtain ⟨hbl, hcl⟩ := canon_fin_bl hcan h.w64 hl
  obtain ⟨fk, fn, fe, fm⟩ := f
  obtain ⟨kd, neg, e, A, c, xs⟩ := a
  have hrng := fun w => range_yes k p w hR
  have hgr := gr_bd hR.1 hR.2.1
  obtain ⟨hk1, hk2, hp1, hp2⟩ := hR
  have hlo := hok.lo
  have hhi := hok.hi
  simp only at hlo hhi hbl hcl
  have hw1 : IntKind.i64.wrap (fe + (bl fm : Int)) = fe + bl fm := by rw [IntKind.wrap_i64]; omega
  have hw2 : IntKind.i64.wrap (fe + (bl fm : Int) - 1) = fe + bl fm - 1 := by rw [IntKind.wrap_i64]; omega
  go_enter Tryz.func51, Tryz.ntmps51
  go_wp2_with fail
  refine hfls.mono ?_
  rintro e w1 ⟨v, rfl, hof, hb1⟩
  obtain ⟨g, A1, c1, c2, rfl, x0, x1, x2, x3, hr1, ho1⟩ := hof.one
  obtain ⟨r0, r1, r2, r3, rf⟩ := (hX.ext hb1).facts
  obtain ⟨f0, f1⟩ := (hF.ext hb1).facts
  have hE1 := hE.tr hb1
  simp only at hr1 ho1
  have hX2 := (hX.ext hb1).put (.int .i64 fk) (.bool fn) (.int .i64 fe) (.slice A1 (cn fm).length c1)
  go_wp2_with fail
  have hXl := hX.lt
  have hE2 := hE1.put (g := w.heap.size + 1) (by omega) (.int .i64 fk) (.bool fn) (.int .i64 fe) (.slice A1 (cn fm).length c1)
  have ho2 := ho1.putBelow (g := w.heap.size + 1) hXl (.int .i64 fk) (.bool fn) (.int .i64 fe) (.slice A1 (cn fm).length c1)
  have hF2 : Bf ((((w1.setCell ⟨w.heap.size + 1, 0, none⟩ (.int .i64 fk)).setCell ⟨w.heap.size + 1, 1, none⟩ (.bool fn)).setCell ⟨w.heap.size + 1, 2, none⟩ (.int .i64 fe)).setCell ⟨w.heap.size + 1, 3, none⟩ (.slice A1 (cn fm).length c1)) w.heap.size (.int .i64 k) (.int .i64 p) := by
    refine ⟨?_⟩
    rw [Below.heap_setCell _ _ _ _ (by simp), Below.heap_setCell _ _ _ _ (by simp), Below.heap_setCell _ _ _ _ (by simp), Below.heap_setCell _ _ _ _ (by simp)]
    exact (hF.ext hb1).h
  generalize ((((w1.setCell ⟨w.heap.size + 1, 0, none⟩ (.int .i64 fk)).setCell ⟨w.heap.size + 1, 1, none⟩ (.bool fn)).setCell ⟨w.heap.size + 1, 2, none⟩ (.int .i64 fe)).setCell ⟨w.heap.size + 1, 3, none⟩ (.slice A1 (cn fm).length c1)) = W1 at *
  clear x0 x1 x2 x3 r0 r1 r2 r3 rf f0 f1
  refine (hrng _).mono ?_
  rintro e w2 ⟨rfl, hb2⟩
  obtain ⟨y0, y1, y2, y3, -⟩ := (hX2.ext hb2).facts
  obtain ⟨f0, f1⟩ := (hF2.ext hb2).facts
  have ho3 := ho2.ext hb2
  obtain ⟨A1', c1', hAc, hr3⟩ := ho3.rd
  injection hAc with e1 e2 e3
  subst e1 e3
  have hE3 := hE2.tr hb2
  go_wp2_with fail
  have hlen := fun w hr => len_c A1 c1 (cn fm) w hr (by omega)
  rw [val_cn] at hlen
  go_region_held3 (fun w' => w'.cell? ⟨w.heap.size + 1, 2, none⟩ = some (.int .i64 fe) ∧ w'.cell? ⟨w.heap.size + 1, 3, none⟩ = some (.slice A1 (cn fm).length c1)) (go_keep)
    (first | (go_at_call 65; refine (hlen _ hr3.drew).mono ?_; rintro e w3 ⟨rfl, n, rfl⟩))
  clear hlen
  have hF3 := (hF2.ext hb2).ext ((Ext.refl w2).drewN (1 + n))
  have hX3 := (hX2.ext hb2).ext ((Ext.refl w2).drewN (1 + n))
  have ho4 := ho3.ext ((Ext.refl w2).drewN (1 + n))
  have hr4 := hr3.ext ((Ext.refl w2).drewN (1 + n))
  have hE4 := hE3.drewN (1 + n)
  go_upto_block 0 with fail
  generalize w2.drewN (1 + n) = W at *
  clear y0 y1 y2 y3 f0 f1
  go_cut [13] (fun v13 wr => EncI w k p ⟨fk, fn, fe, fm⟩ (.slice A1 (cn fm).length c1) v13 wr)
  case first =>
    obtain ⟨y0, y1, y2, y3, -⟩ := hX3.facts
    obtain ⟨f0, f1⟩ := hF3.facts
    have hkk := hok.kind
    simp only at hkk
    rcases (show fk = 0 ∨ fk = 1 ∨ fk = 2 ∨ fk = 3 by omega) with rfl | rfl | rfl | rfl
    · have hM : encM k p ⟨0, fn, fe, fm⟩ = 0 := by unfold encM; rw [if_pos rfl]
      have HM := Lib.hid hM
      clear hM
      go_wp2
      go_meet
      exact ⟨by rw [HM.out, show cn 0 = [] from digs_zero B]; exact Own.nil _ _, hE4, hF3, hX3⟩
    · have HM := Lib.hid (show encM k p ⟨1, fn, fe, fm⟩ = (if fe + bl fm - 1 < le k then fm * 2 ^ (fe - ti k p).toNat else (fe + bl fm - 1 + gr k - 1).toNat * 2 ^ (p - 1).toNat + fm * 2 ^ (p - bl fm).toNat) by
        unfold encM; rw [if_neg (by simp), if_pos rfl, show (p - 1).toNat = p.toNat - 1 by omega])
      obtain ⟨i1, i2, i3⟩ := hin rfl
      simp only at i1 i2 i3
      have hle : le k = 1 - gr k := rfl
      have hti : ti k p = 1 - gr k - (p - 1) := rfl
      have hML := encM_len (f := ⟨1, fn, fe, fm⟩) ⟨hk1, hk2, hp1, hp2⟩ hok hin
      have hz0 := hF3.lt
      have hz1 := hX3.lt
      have hbm : fm < 2 ^ bl fm := bl_lt
      by_cases hsub : fe + (bl fm : Int) - 1 < le k
      · rw [if_pos hsub] at HM
        have hd : decide (fe + (bl fm : Int) - 1 < le k) = true := decide_eq_true hsub
        have hw3 : IntKind.i64.wrap (fe - ti k p) = fe - ti k p := by rw [IntKind.wrap_i64]; omega
        have hshl := fun w h => shl_i A1 c1 (cn fm) (fe - ti k p) w h (by omega) (by omega) (by omega)
        rw [val_cn] at hshl
        generalize fm * 2 ^ (fe - ti k p).toNat = M at hshl HM
        generalize bl fm = ℓ at *
        generalize gr k = G at *
        generalize ti k p = T at *
        generalize le k = L at *
        clear hle hti hsub i1 i2 i3 hw1 hw2 hgr hbm hin
        go_wp2_with (go_at_call 67; refine (hshl _ hr4).mono ?_; rintro e w5 ⟨v, rfl, ho5, hb5⟩)
        go_meet
        exact ⟨by rw [HM.out]; exact ho5.low hE4.size, hE4.tr hb5, hF3.ext hb5, hX3.ext hb5⟩
      · rw [if_neg hsub] at HM
        have hd : decide (fe + (bl fm : Int) - 1 < le k) = false := decide_eq_false hsub
        obtain ⟨x, hx⟩ := Int.eq_ofNat_of_zero_le (show 0 ≤ fe + (bl fm : Int) - 1 + gr k - 1 by omega)
        have hxB : x < B := by rw [B_eq]; omega
        rw [hx, show ((x : Int)).toNat = x by omega] at HM
        have hv1 : IntKind.i64.wrap (fe + (bl fm : Int) - 1 + gr k) = (x : Int) + 1 := by rw [IntKind.wrap_i64]; omega
        have hv2 : IntKind.i64.wrap ((x : Int) + 1 - 1) = x := by rw [IntKind.wrap_i64]; omega
        have hv2' : IntKind.i64.wrap (x : Int) = x := by rw [IntKind.wrap_i64]; omega
        have hv3 : IntKind.u64.wrap (x : Int) = x := by rw [IntKind.wrap_u64]; omega
        have hv4 : IntKind.i64.wrap (p - 1) = p - 1 := by rw [IntKind.wrap_i64]; omega
        have hv5 : IntKind.i64.wrap (fe + (bl fm : Int) - 1 - p) = fe + bl fm - 1 - p := by rw [IntKind.wrap_i64]; omega
        have hv6 : IntKind.i64.wrap (fe + (bl fm : Int) - 1 - p + 1) = fe + bl fm - 1 - p + 1 := by rw [IntKind.wrap_i64]; omega
        have hv7 : IntKind.i64.wrap (fe - (fe + (bl fm : Int) - 1 - p + 1)) = p - bl fm := by rw [IntKind.wrap_i64]; omega
        have hshl := fun w h => shl_i A1 c1 (cn fm) (p - bl fm) w h (by omega) (by omega) (by omega)
        rw [val_cn] at hshl
        have hshl2 := fun A5 c5 w h => shl_i A5 c5 (cn x) (p - 1) w h (by omega) (by omega) (by have := (cn_len_le x 1).2 (by rw [Nat.pow_one]; exact hxB); omega)
        rw [val_cn] at hshl2
        have hl1 : (cn (fm * 2 ^ (p - bl fm).toNat)).length ≤ 5 := Nat.le_trans (cn_len_mono (Nat.le_trans (Nat.le_add_left ..) (Nat.le_of_eq HM.out.symm))) hML
        have hl2 : (cn (x * 2 ^ (p - 1).toNat)).length ≤ 5 := Nat.le_trans (cn_len_mono (Nat.le_trans (Nat.le_add_right ..) (Nat.le_of_eq HM.out.symm))) hML
        generalize fm * 2 ^ (p - bl fm).toNat = M1 at hshl HM hl1
        generalize x * 2 ^ (p - 1).toNat = M2 at hshl2 HM hl2
        generalize bl fm = ℓ at *
        generalize gr k = G at *
        generalize ti k p = T at *
        generalize le k = L at *
        clear hle hti hsub i1 i2 i3 hgr hbm hin hx
        have hl1' : (cn M1).length ≤ 1000000000 := by omega
        have hl2' : (cn M2).length ≤ 1000000000 := by omega
        clear hML hl1 hl2
        obtain ⟨W0, hW0⟩ : ∃ W0, W0 = W := ⟨W, rfl⟩
        have hE40 := hE4
        have hF30 := hF3
        have hX30 := hX3
        have hr40 := hr4
        clear ho4
        go_wp2_with fail
        go_region_held3 (fun w' => w'.cell? ⟨w.heap.size + 1, 2, none⟩ = some (.int .i64 fe) ∧ w'.cell? ⟨w.heap.size + 1, 3, none⟩ = some (.slice A1 (cn fm).length c1))
          (first | go_keep | (go_split_ands; refine ⟨?_, ?_⟩ <;> (refine Ext.cell (by assumption) ?_; assumption)))
          (first
            | (go_at_call 81; (with_reducible refine (word_c x _ hxB).mono ?_); rintro e w5 ⟨v, rfl, ho5, hb5⟩; obtain ⟨A5, c5, rfl, hr5⟩ := ho5.rd)
            | (go_at_call 67; (with_reducible refine (hshl2 A5 c5 _ hr5).mono ?_); rintro e w6 ⟨v, rfl, ho6, hb6⟩; obtain ⟨A6, c6, rfl, hr6⟩ := ho6.rd)
            | (go_at_call 67; (with_reducible refine (hshl _ (((hr4.drew.ext hb5).ext hb6))).mono ?_); rintro e w7 ⟨v, rfl, ho7, hb7⟩; obtain ⟨A7, c7, rfl, hr7⟩ := ho7.rd)
            | (go_at_call 44; (with_reducible refine (add_c A6 A7 c6 c7 _ _ _ (hr6.ext hb7) hr7 hl2' hl1').mono ?_); rintro e w8 ⟨v, rfl, ho8, hb8⟩))
        go_wp2
        go_meet
        have hF7 := (((hF3.ext (Ext.refl W).drew).ext hb5).ext hb6).ext hb7
        have hX7 := (((hX3.ext (Ext.refl W).drew).ext hb5).ext hb6).ext hb7
        have hE7 := (((hE4.tr (Ext.refl W).drew).tr hb5).tr hb6).tr hb7
        rw [val_cn, val_cn] at ho8
        have h8 := ho8.low hE7.size
        exact ⟨by rw [HM.out]; exact h8, hE7.tr hb8, hF7.ext hb8, hX7.ext hb8⟩
    · have hM : encM k p ⟨2, fn, fe, fm⟩ = (2 ^ k.toNat - 1) * 2 ^ (p - 1).toNat := by
        unfold encM; rw [if_neg (by simp), if_neg (by simp), if_neg (by simp), show (p - 1).toNat = p.toNat - 1 by omega]; rfl
      have HM := Lib.hid hM
      clear hM
      have hwo := wrap_ones hk1 hk2
      have hwp : IntKind.i64.wrap (p - 1) = p - 1 := by rw [IntKind.wrap_i64]; omega
      have hqB : 2 ^ k.toNat - 1 < B := by
        have : 2 ^ k.toNat ≤ 2 ^ 15 := Nat.pow_le_pow_right (by omega) (by omega)
        rw [B_eq]; omega
      generalize 2 ^ k.toNat - 1 = q at *
      have hshl := fun A5 c5 w h => shl_i A5 c5 (cn q) (p - 1) w h (by omega) (by omega) (by have := (cn_len_le q 1).2 (by rw [Nat.pow_one]; exact hqB); omega)
      rw [val_cn] at hshl
      generalize q * 2 ^ (p - 1).toNat = M at *
      have hz0 := hF3.lt
      have hz1 := hX3.lt
      go_wp2_with (first
        | (go_at_call 81; refine (word_c q _ hqB).mono ?_; rintro e w5 ⟨v, rfl, ho5, hb5⟩; obtain ⟨A5, c5, rfl, hr5⟩ := ho5.rd)
        | (go_at_call 67; refine (hshl A5 c5 _ hr5).mono ?_; rintro e w6 ⟨v, rfl, ho6, hb6⟩; obtain ⟨z0, z1, z2, z3, -⟩ := ((hX3.ext hb5).ext hb6).facts))
      go_meet
      exact ⟨by rw [HM.out]; exact ho6.low ((hE4.tr hb5).size), (hE4.tr hb5).tr hb6, (hF3.ext hb5).ext hb6, (hX3.ext hb5).ext hb6⟩
    · have hM : encM k p ⟨3, fn, fe, fm⟩ = (2 ^ k.toNat - 1) * 2 ^ (p - 1).toNat + 2 ^ (p - 2).toNat := by
        unfold encM; rw [if_neg (by simp), if_neg (by simp), if_pos rfl, show (p - 1).toNat = p.toNat - 1 by omega, show (p - 2).toNat = p.toNat - 2 by omega]
      have HM := Lib.hid hM
      clear hM
      have hML := encM_len (f := ⟨3, fn, fe, fm⟩) ⟨hk1, hk2, hp1, hp2⟩ hok hin
      have hwo := wrap_ones hk1 hk2
      have hwp : IntKind.i64.wrap (p - 1) = p - 1 := by rw [IntKind.wrap_i64]; omega
      have hwp2 : IntKind.i64.wrap (p - 2) = p - 2 := by rw [IntKind.wrap_i64]; omega
      have hqB : 2 ^ k.toNat - 1 < B := by
        have : 2 ^ k.toNat ≤ 2 ^ 15 := Nat.pow_le_pow_right (by omega) (by omega)
        rw [B_eq]; omega
      generalize 2 ^ k.toNat - 1 = q at *
      have hshl := fun A5 c5 w h => shl_i A5 c5 (cn q) (p - 1) w h (by omega) (by omega) (by have := (cn_len_le q 1).2 (by rw [Nat.pow_one]; exact hqB); omega)
      rw [val_cn] at hshl
      have hone := fun w => shl1_c (p - 2) w (by omega) (by omega)
      have hl1 : (cn (q * 2 ^ (p - 1).toNat)).length ≤ 5 := Nat.le_trans (cn_len_mono (Nat.le_trans (Nat.le_add_right ..) (Nat.le_of_eq HM.out.symm))) hML
      have hl2 : (cn (2 ^ (p - 2).toNat)).length ≤ 5 := Nat.le_trans (cn_len_mono (Nat.le_trans (Nat.le_add_left ..) (Nat.le_of_eq HM.out.symm))) hML
      generalize q * 2 ^ (p - 1).toNat = M at *
      generalize 2 ^ (p - 2).toNat = M2 at *
      have hl1' : (cn M).length ≤ 1000000000 := by omega
      have hl2' : (cn M2).length ≤ 1000000000 := by omega
      clear hML hl1 hl2
      have hz0 := hF3.lt
      have hz1 := hX3.lt
      go_wp2_with fail
      refine (word_c q _ hqB).mono ?_
      rintro e w5 ⟨v, rfl, ho5, hb5⟩
      obtain ⟨A5, c5, rfl, hr5⟩ := ho5.rd
      go_wp2_with fail
      refine (hshl A5 c5 _ hr5).mono ?_
      rintro e w6 ⟨v, rfl, ho6, hb6⟩
      obtain ⟨A6, c6, rfl, hr6⟩ := ho6.rd
      obtain ⟨z0, z1, z2, z3, -⟩ := ((hX3.ext hb5).ext hb6).facts
      have hz2 := ((hX3.ext hb5).ext hb6).lt
      have hz3 := ((hF3.ext hb5).ext hb6).lt
      go_wp2_with fail
      refine (hone _).mono ?_
      rintro e w7 ⟨v, rfl, ho7, hb7⟩
      obtain ⟨A7, c7, rfl, hr7⟩ := ho7.rd
      go_wp2_with fail
      refine (add_c A6 A7 c6 c7 _ _ _ ((hr6.ext ((Ext.refl _).al _)).ext hb7) hr7 hl1' hl2').mono ?_
      rintro e w8 ⟨v, rfl, ho8, hb8⟩
      go_wp2
      go_meet
      have hA := (Ext.refl w6).al (Obj.cells #[Value.int IntKind.u64 1] 45)
      have hF7 := (((hF3.ext hb5).ext hb6).ext hA).ext hb7
      have hX7 := (((hX3.ext hb5).ext hb6).ext hA).ext hb7
      have hE7 := (((hE4.tr hb5).tr hb6).tr hA).tr hb7
      rw [val_cn, val_cn] at ho8
      have h8 := ho8.low hE7.size
      exact ⟨by rw [HM.out]; exact h8, hE7.tr hb8, hF7.ext hb8, hX7.ext hb8⟩
  case rest =>
    obtain ⟨hov, hE5, hF5, hX5⟩ := hcut
    obtain ⟨A5, c5, rfl, hr5⟩ := hov.rd
    obtain ⟨y0, y1, y2, y3, -⟩ := hX5.facts
    obtain ⟨f0, f1⟩ := hF5.facts
    cases fn
    · have hS : encS k p ⟨fk, false, fe, fm⟩ = encM k p ⟨fk, false, fe, fm⟩ := by unfold encS; rw [if_neg (by simp)]; rfl
      have HS := Lib.hid hS
      clear hS
      go_wp2
      go_ret2
      exact ⟨_, rfl, by rw [HS.out]; exact hov, hE5⟩
    · have hS : encS k p ⟨fk, true, fe, fm⟩ = encM k p ⟨fk, true, fe, fm⟩ + 2 ^ (k + p - 1).toNat := by
        unfold encS; rw [if_pos rfl, show (k + p - 1).toNat = k.toNat + p.toNat - 1 by omega]
      have HS := Lib.hid hS
      clear hS
      have hML := encM_len (f := ⟨fk, true, fe, fm⟩) ⟨hk1, hk2, hp1, hp2⟩ hok hin
      have hw3 : IntKind.i64.wrap (k + p) = k + p := by rw [IntKind.wrap_i64]; omega
      have hw4 : IntKind.i64.wrap (k + p - 1) = k + p - 1 := by rw [IntKind.wrap_i64]; omega
      have hz0 := hF5.lt
      have hz1 := hX5.lt
      have hone := fun w => shl1_c (k + p - 1) w (by omega) (by omega)
      have hl2 := cn_len_pow (n := 2 ^ (k + p - 1).toNat) (m := (k + p - 1).toNat + 1) (k := 5) (Nat.pow_lt_pow_right (by omega) (by omega)) (by omega)
      generalize 2 ^ (k + p - 1).toNat = M2 at *
      generalize encM k p ⟨fk, true, fe, fm⟩ = M at *
      have hl1' : (cn M).length ≤ 1000000000 := by omega
      have hl2' : (cn M2).length ≤ 1000000000 := by omega
      clear hML hl2
      go_wp2_with (first
        | (go_at_call 67; refine (hone _).mono ?_; rintro e w6 ⟨v, rfl, ho6, hb6⟩; obtain ⟨A6, c6, rfl, hr6⟩ := ho6.rd)
        | (go_at_call 44; refine (add_c A5 A6 c5 c6 _ _ _ ((hr5.ext ((Ext.refl _).al _)).ext hb6) hr6 hl1' hl2').mono ?_; rintro e w7 ⟨v, rfl, ho7, hb7⟩))
      go_ret2
      rw [val_cn, val_cn] at ho7
      have hE6 := (hE5.al (Obj.cells #[Value.int IntKind.u64 1] 45)).tr hb6
      exact ⟨_, rfl, by rw [HS.out]; exact ho7.low hE6.size, hE6.tr hb7⟩
/-- The number that Encode hands back. -/
def encN (k p : Int) (a : FA) : Nat := if fltE k p a = 0 then (match a.can with | some f => encS k p f | none => 0) else 0
theorem encode_c (k p : Int) (a : FA) (w : World) (hT : Tab w) (h : Rd w a.A a.c a.xs) :
    Calls Tryz.prog 51 #[.agg #[.int .i64 k, .int .i64 p], a.v] w (NatR w (fltE k p a) (encN k p a)) := by
  by_cases h0 : fltE k p a = 0
  · obtain ⟨hR, hl, f, hcan, hin, hfl⟩ := FlsS_ok h0
    have := encode_good k p a w hT h hR hl f hcan hin hfl
    rw [show encN k p a = encS k p f by unfold encN; rw [if_pos h0, hcan], h0]
    exact this
  · rw [show encN k p a = 0 by unfold encN; rw [if_neg h0]]
    exact encode_bad k p a w hT h h0
end Go.Proofs.YtlnfmngginihfaaGreatDoor
