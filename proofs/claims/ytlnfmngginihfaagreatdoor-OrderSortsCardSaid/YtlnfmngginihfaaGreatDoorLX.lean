/- OrderSorts: the walk. -/
import Derived.Test.YtlnfmngginihfaaGreatDoorSQ
import Derived.Deep.CutRange
set_option linter.unusedVariables false
set_option linter.unusedSimpArgs false
namespace Go.Proofs.YtlnfmngginihfaaGreatDoor
open Go.RowKit Go.Sort

set_option maxHeartbeats 4000000 in
set_option maxRecDepth 100000 in
theorem orderSorts_many (k p : Int) (A : Option Addr) (n c m : Nat) (w : World) (hT : Tab w) (hn : 30 < n) :
    Calls Tryz.prog 3 #[.agg #[.int .i64 k, .int .i64 p], .slice A n c, .int .u16 (m : Int)] w fun e w' => e = .returned (.bool true) ∧ Ext w w' := by
  have hE := (Ext.refl w).al (.cells #[.int .i64 k, .int .i64 p] 23)
  have h1 : decide ((30 : Int) < (n : Int)) = true := decide_eq_true (by omega)
  have h2 : (30 : Int) < (n : Int) := by omega
  have HE := Lib.hid hE
  clear hE
  go_enter Tryz.func3, Tryz.ntmps3
  go_wp2_with fail
  have hE := HE.out
  refine (awake21_c _ (hT.ext hE)).mono ?_
  rintro z w99 ⟨rfl, hb99⟩
  go_wp2_with fail
  go_ret
  exact ⟨rfl, hE.tr hb99⟩
set_option maxHeartbeats 4000000 in
set_option maxRecDepth 100000 in
theorem orderSorts_wide (k p : Int) (A : Option Addr) (c m : Nat) (l : List FA) (w : World) (hT : Tab w) (hn : l.length ≤ 30) (h : FRd w A c l) (hs : ¬ l.all (fun a => decide (a.xs.length ≤ 40)) = true) :
    Calls Tryz.prog 3 #[.agg #[.int .i64 k, .int .i64 p], .slice A l.length c, .int .u16 (m : Int)] w fun e w' => e = .returned (.bool true) ∧ Ext w w' := by
  have hE := (Ext.refl w).al (.cells #[.int .i64 k, .int .i64 p] 23)
  have h1 : decide ((30 : Int) < (l.length : Int)) = false := decide_eq_false (by omega)
  have h2 : ¬ (30 : Int) < (l.length : Int) := by omega
  have hsh := fun w h => short_c A c l w h
  rw [Bool.eq_false_iff.2 hs] at hsh
  have HE := Lib.hid hE
  clear hE hs
  go_enter Tryz.func3, Tryz.ntmps3
  go_wp2_with fail
  have hE := HE.out
  refine (hsh _ (h.ext hE)).mono ?_
  rintro z w1 ⟨rfl, rfl⟩
  go_wp2_with fail
  refine (awake21_c _ (hT.ext hE)).mono ?_
  rintro z w99 ⟨rfl, hb99⟩
  go_wp2_with fail
  go_ret
  exact ⟨rfl, hE.tr hb99⟩
set_option maxHeartbeats 8000000 in
set_option maxRecDepth 100000 in
theorem orderSorts_fit (k p : Int) (A : Option Addr) (c m : Nat) (hm : m < 65536) (l : List FA) (w : World) (hT : Tab w) (hn : l.length ≤ 30) (h : FRd w A c l) (hs : ∀ a ∈ l, a.xs.length ≤ 40) :
    Calls Tryz.prog 3 #[.agg #[.int .i64 k, .int .i64 p], .slice A l.length c, .int .u16 (m : Int)] w fun e w' => e = .returned (.bool true) ∧ Ext w w' := by
  have hE := (Ext.refl w).al (.cells #[.int .i64 k, .int .i64 p] 23)
  have hB := Bf.new w (.int .i64 k) (.int .i64 p)
  have h1 : decide ((30 : Int) < (l.length : Int)) = false := decide_eq_false (by omega)
  have h2 : ¬ (30 : Int) < (l.length : Int) := by omega
  have hsh := fun w h => short_c A c l w h
  rw [show (l.all fun a => decide (a.xs.length ≤ 40)) = true from List.all_eq_true.2 fun a ha => decide_eq_true (hs a ha)] at hsh
  have hso := fun w hT h => sort_few k p A c l hs (by omega) w hT h
  have hck := fun w h => check21_c k p A c l w h (fun i hi => by have := hs _ (List.getElem_mem hi); omega)
  have hth := fun w h => theirs_c A c l w h
  unfold SortB at hso
  have HE := Lib.hid hE
  have HB := Lib.hid hB
  clear hE hB
  go_enter Tryz.func3, Tryz.ntmps3
  go_wp2_with fail
  have hE := HE.out
  have hB := HB.out
  generalize w.alloc (.cells #[.int .i64 k, .int .i64 p] 23) = W at *
  refine (hsh _ (h.ext hE)).mono ?_
  rintro z w1 ⟨rfl, rfl⟩
  obtain ⟨f0, f1⟩ := hB.facts
  go_wp2_with fail
  refine (hso _ (hT.ext hE) (h.ext hE)).mono ?_
  rintro z w2 ⟨A2, n2, c2, rfl, hE2, hres⟩
  have f02 := hE2.cell f0
  have f12 := hE2.cell f1
  clear h1 h2 hsh hso
  go_wp2_with fail
  refine (hck _ (h.ext (hE.tr hE2))).mono ?_
  rintro z w3 ⟨rfl, hE3⟩
  have HRES := Lib.hid hres
  clear hres hck f02 f12
  generalize chkS k p l = C at *
  go_upto_if 36 with fail
  go_cut [10, 11] from 36 to 72 (fun s10 s11 wx => Ext W wx)
  case first =>
    rcases HRES.out with ⟨e0, rfl⟩ | ⟨e0, hR, fs, d, rfl, hf, hfr, hdl, hp, hpw⟩
    · have b1 : (C != 0) = true := by rw [bne_iff_ne]; exact e0
      have b2 : (C != C) = false := by simp
      clear e0 HRES hth
      go_wp2_with fail
      go_meet
      exact hE2.tr hE3
    · have b1 : (C != 0) = false := by rw [e0]; rfl
      have hsd := fun A c w h => rsorted_c k p hR A c l fs hf.1 hf.2 w h
      unfold SortdR at hsd
      rw [hf.1] at hsd
      have HFR := Lib.hid hfr
      have HDL := Lib.hid hdl
      have HP := Lib.hid hp
      have HPW := Lib.hid hpw
      have HF := Lib.hid hf
      clear e0 HRES hfr hdl hp hpw hf
      go_wp2_with fail
      refine (hth _ (h.ext ((hE.tr hE2).tr hE3))).mono ?_
      rintro z w4 ⟨A4, c4, rfl, hfr4, hE4⟩
      go_wp2_with fail
      refine (hsd _ _ _ hfr4).mono ?_
      rintro z w5 ⟨A5, c5, d5, rfl, hdl5, hfr5, hp5, hpw5, hE5⟩
      have hsame := sorted_same hR HF.out HP.out HPW.out hp5 hpw5
      have HFR5 := Lib.hid hfr5
      have HDL5 := Lib.hid hdl5
      have HS := Lib.hid hsame
      clear hfr5 hdl5 hp5 hpw5 hsame hfr4 hth hsd
      go_wp2_with fail
      go_loopw [11] (fun v11 wr => ∃ i : Nat, i ≤ l.length ∧ v11 = .int .i64 (i : Int) ∧ Ext w5 wr) (fun v _ => l.length - (intOf v).toNat)
      case atStart => exact ⟨0, Nat.zero_le _, rfl, Ext.refl _⟩
      case round =>
        obtain ⟨i, hi, rfl, hE6⟩ := hrel
        have hE26 := ((hE3.tr hE4).tr hE5).tr hE6
        by_cases hlt : i < l.length
        · have hid : i < d.length := by rw [HDL.out]; exact hlt
          have hid5 : i < d5.length := by rw [HDL5.out]; exact hlt
          obtain ⟨ad2, rfl, c0, c1, c2', c3, hr2⟩ := (HFR.out.ext hE26).el i hid
          obtain ⟨ad5, rfl, c4, c5', c6, c7, hr5⟩ := (HFR5.out.ext hE6).el i hid5
          have hg : d[i].f = d5[i].f := by
            have q : (d.map (·.f))[i]? = (d5.map (·.f))[i]? := by rw [HS.out]
            rw [List.getElem?_map, List.getElem?_map, List.getElem?_eq_getElem hid, List.getElem?_eq_getElem hid5] at q
            exact Option.some.inj q
          have hfo : FOf k p d[i].f := HF.out.all _ (HP.out.mem_iff.1 (List.mem_map.2 ⟨d[i], List.getElem_mem hid, rfl⟩))
          rw [← hg] at c4 c5' c6 c7 hr5
          have hFO := Lib.hid hfo
          clear hg hfo
          generalize d[i].A = B2 at *
          generalize d[i].c = e2 at *
          generalize d5[i].A = B5 at *
          generalize d5[i].c = e5 at *
          generalize d[i].f = y at *
          have his := fun (V : Later wr) => lis_own y hFO.out.ok hFO.out.len B2 B5 e2 e5 V.v (hr2.ext V.h) (hr5.ext V.h)
          obtain ⟨yk, yn, ye, ym⟩ := y
          simp only at c0 c1 c2' c3 c4 c5' c6 c7 his
          generalize cn ym = ys at *
          have q0 := Later.cell c0
          have q1 := Later.cell c1
          have q2 := Later.cell c2'
          have q3 := Later.cell c3
          have q4 := Later.cell c4
          have q5 := Later.cell c5'
          have q6 := Later.cell c6
          have q7 := Later.cell c7
          have g0 : (0 : Int) ≤ (i : Int) := by omega
          have g1 : (i : Int) < (l.length : Int) := by omega
          have g2 : ((i : Int) * 4).toNat = i * 4 := by omega
          clear c0 c1 c2' c3 c4 c5' c6 c7 hid hid5
          go_wp2_with fail
          refine wp_region_later (by kernel_rfl) (by kernel_rfl) ?_
          repeat (go_big_quiet_step (first
            | (go_at_call 10; (with_reducible refine Calls.later (his _)))))
          refine wpQuiet_nil ?_
          intro wq hw'
          obtain ⟨⟨w7, hE7⟩, hw7⟩ := hw'
          replace hw7 : wq = w7 := hw7
          rw [hw7]
          clear hw7 wq q0 q1 q2 q3 q4 q5 q6 q7 his
          go_wp2_with fail
          go_roundw
          case rel => exact ⟨i + 1, hlt, by go_num, hE6.tr hE7⟩
          case measure => simp [intOf]; omega
        · obtain rfl : i = l.length := by omega
          go_wp2_with fail
          go_meet
          exact hE2.tr hE26
  case rest =>
    clear HRES hth
    obtain ⟨q, hq⟩ : ∃ q, m % 1003 = q := ⟨_, rfl⟩
    have hq1 : q ≤ 1002 := by omega
    have m1 : (m : Int).tmod 1003 = (q : Int) := by rw [Int.tmod_eq_emod_of_nonneg (by omega)]; omega
    have m2 : IntKind.i64.wrap (m : Int) = (m : Int) := by rw [IntKind.wrap_i64]; omega
    clear hq
    have hEc := hE.tr hcut
    have f0' := hcut.cell f0
    have f1' := hcut.cell f1
    clear hcut f0 f1
    go_upto_block 2 with (at_make; refine wp_makeF rfl _ _ _ rfl Tryz.underlying24 q _ rfl rfl rfl (by omega) ?_; intro g w6 hg hb hE6)
    obtain ⟨z, hz⟩ : ∃ z, (match l with | [] => FA.zero | a :: _ => a) = z := ⟨_, rfl⟩
    have hz40 : z.xs.length ≤ 40 := by
      rw [← hz]
      cases l with
      | nil => simp [FA.zero]
      | cons a l => exact hs a (List.mem_cons_self ..)
    have hzr : Rd w z.A z.c z.xs := by
      rw [← hz]
      cases l with
      | nil => exact Rd.nil _ _ _
      | cons a l => obtain ⟨ad, -, -, -, -, -, hr⟩ := h.cell 0 (by simp); exact hr
    have hz0 : l.length = 0 → z = FA.zero := fun e => by
      rw [← hz]
      cases l with
      | nil => rfl
      | cons a l => cases e
    have hz1 : 0 < l.length → ∃ ad, A = some ad ∧ w.cell? ad = some (.int .i64 z.k) ∧ w.cell? ⟨ad.block, ad.off + 1, none⟩ = some (.bool z.neg) ∧ w.cell? ⟨ad.block, ad.off + 2, none⟩ = some (.int .i64 z.e) ∧ w.cell? ⟨ad.block, ad.off + 3, none⟩ = some (.slice z.A z.xs.length z.c) := fun e => by
      rw [← hz]
      cases l with
      | nil => cases e
      | cons a l =>
        obtain ⟨ad, e, c0, c1, c2, c3, -⟩ := h.cell 0 (by simp)
        rw [Nat.zero_mul, show ad.add 0 = ad by unfold Addr.add; split <;> simp_all] at c0 c1 c2 c3
        exact ⟨ad, e, c0, c1, c2, c3⟩
    have HZ0 := Lib.hid hz0
    have HZ1 := Lib.hid hz1
    have HS := Lib.hid hs
    clear hz hz0 hz1 hs m1 m2
    go_cut [13] from 77 to 93 (fun s13 wx => BkF wx g (List.replicate q z) ∧ Ext wc wx)
    case first =>
      go_wp2_with fail
      go_loopw [13] (fun v13 wr => ∃ i : Nat, i ≤ q ∧ v13 = .int .i64 (i : Int) ∧ BkF wr g (List.replicate i z ++ List.replicate (q - i) FA.zero) ∧ Ext wc wr) (fun v _ => q - (intOf v).toNat)
      case atStart => exact ⟨0, Nat.zero_le _, rfl, hb, hE6⟩
      case round =>
        obtain ⟨i, hi, rfl, hbi, hE7⟩ := hrel
        by_cases hlt : i < q
        · have g1 : (i : Int) < (q : Int) := by omega
          rcases Nat.eq_zero_or_pos l.length with hl0 | hl0
          · have hzz := HZ0.out hl0
            subst hzz
            have g3 : ¬ (0 : Int) < (l.length : Int) := by omega
            have g4 : decide (0 < l.length) = false := decide_eq_false (by omega)
            have HBI := Lib.hid hbi
            clear hbi hl0
            go_wp2_with fail
            go_meet
            exact ⟨by have q := HBI.out; rwa [rep_all _ _ _ hi] at q, hE7⟩
          · obtain ⟨ad, rfl, c0, c1, c2', c3⟩ := HZ1.out hl0
            replace c0 := (hEc.tr hE7).cell c0
            replace c1 := (hEc.tr hE7).cell c1
            replace c2' := (hEc.tr hE7).cell c2'
            replace c3 := (hEc.tr hE7).cell c3
            have g3 : (0 : Int) < (l.length : Int) := by omega
            have g4 : decide (0 < l.length) = true := decide_eq_true hl0
            have g0 : (0 : Int) ≤ (i : Int) := by omega
            have g2 : ((i : Int) * 4).toNat = i * 4 := by omega
            have hil : i < (List.replicate i z ++ List.replicate (q - i) FA.zero).length := by rw [List.length_append, List.length_replicate, List.length_replicate]; omega
            obtain ⟨d0, d1, d2, d3⟩ := hbi.cell i hil
            have e0 := hbi.frozen (i * 4)
            have e1 := hbi.frozen (i * 4 + 1)
            have e2 := hbi.frozen (i * 4 + 2)
            have e3 := hbi.frozen (i * 4 + 3)
            have hput := hbi.put i hil z
            rw [rep_set i q z FA.zero hlt] at hput
            have HPUT := Lib.hid hput
            generalize (List.replicate i z ++ List.replicate (q - i) FA.zero)[i] = y at *
            clear hput hbi hil
            go_wp2_with fail
            go_roundw
            case rel => exact ⟨i + 1, hlt, by go_num, HPUT.out, (((hE7.set hg _ _).set hg _ _).set hg _ _).set hg _ _⟩
            case measure => simp [intOf]; omega
        · obtain rfl : i = q := by omega
          have HBI := Lib.hid hbi
          clear hbi
          go_wp2_with fail
          go_meet
          exact ⟨by have q := HBI.out; rwa [Nat.sub_self, List.replicate_zero, List.append_nil] at q, hE7⟩
    case rest =>
      obtain ⟨hb8, hE8⟩ := hcut
      have f0 := hE8.cell f0'
      have f1 := hE8.cell f1'
      have hEd := hEc.tr hE8
      have hF : FRd wc (some ⟨g, 0, none⟩) q (List.replicate q z) := hb8.frd (by simp) (by simp; omega) (fun a ha => by rw [List.eq_of_mem_replicate ha]; exact hzr.ext hEd)
      obtain ⟨rl, hrl⟩ : ∃ rl, List.replicate q z = rl := ⟨_, rfl⟩
      rw [hrl] at hF
      have hlen : rl.length = q := by rw [← hrl, List.length_replicate]
      have h40 : ∀ a ∈ rl, a.xs.length ≤ 40 := fun a ha => by rw [← hrl] at ha; rw [List.eq_of_mem_replicate ha]; exact hz40
      have hso := fun w hT h => sort_any k p (some ⟨g, 0, none⟩) q rl h40 w hT h
      have hck := fun w h => check21_c k p (some ⟨g, 0, none⟩) q rl w h (fun i hi => by have := h40 _ (List.getElem_mem hi); omega)
      have hno := chk_small k p rl
      have hne2 : (chkS k p rl != 2) = true := by rw [bne_iff_ne]; exact hno
      unfold SortB at hso
      rw [hlen] at hso hck
      have haw := fun w hE => awake21_c w (hT.ext hE)
      have hE0 : srtE k p rl = if 1000 < q then 1 else chkS k p rl := by unfold srtE; rw [hlen]
      have HRL := Lib.hid hrl
      clear hb f0' f1' hE8 hno hlen hrl
      by_cases hbig : 1000 < q
      · rw [hE0, if_pos hbig] at hso
        have g1 : decide ((1000 : Int) < (q : Int)) = true := decide_eq_true (by omega)
        have g2 : (1000 : Int) < (q : Int) := by omega
        clear hE0 h40 hb8
        generalize chkS k p rl = C2 at *
        go_wp2_with fail
        refine (hso _ (hT.ext hEd) hF).mono ?_
        rintro z9 w9 ⟨A9, n9, c9, rfl, hE9, hres⟩
        obtain rfl : n9 = 0 := by
          rcases hres with ⟨-, h9⟩ | ⟨h9, -⟩
          · exact h9
          · cases h9
        replace f0 := hE9.cell f0
        replace f1 := hE9.cell f1
        clear hres hso
        go_wp2_with fail
        refine (hck _ (hF.ext hE9)).mono ?_
        rintro z10 w10 ⟨rfl, hE10⟩
        clear f0 f1 hck
        go_wp2_with fail
        refine (haw _ ((hEd.tr hE9).tr hE10)).mono ?_
        rintro z11 w11 ⟨rfl, hE11⟩
        go_wp2_with fail
        go_ret
        exact ⟨rfl, ((hEd.tr hE9).tr hE10).tr hE11⟩
      · rw [hE0, if_neg hbig] at hso
        have g1 : decide ((1000 : Int) < (q : Int)) = false := decide_eq_false (by omega)
        have g2 : ¬ (1000 : Int) < (q : Int) := by omega
        clear hE0 h40
        generalize chkS k p rl = C2 at *
        go_wp2_with fail
        refine (hso _ (hT.ext hEd) hF).mono ?_
        rintro z9 w9 ⟨A9, n9, c9, rfl, hE9, hres⟩
        replace f0 := hE9.cell f0
        replace f1 := hE9.cell f1
        have HRES := Lib.hid hres
        clear hres hso
        go_wp2_with fail
        refine (hck _ (hF.ext hE9)).mono ?_
        rintro z10 w10 ⟨rfl, hE10⟩
        clear f0 f1 hck
        rcases HRES.out with ⟨e0, rfl⟩ | ⟨e0, hR, fs, d, rfl, hf, hfr, hdl, hp, hpw⟩
        · have b1 : (C2 != 0) = true := by rw [bne_iff_ne]; exact e0
          have b2 : (C2 == C2) = true := by simp
          clear e0 HRES
          go_wp2_with fail
          refine (haw _ ((hEd.tr hE9).tr hE10)).mono ?_
          rintro z11 w11 ⟨rfl, hE11⟩
          go_wp2_with fail
          go_ret
          exact ⟨rfl, ((hEd.tr hE9).tr hE10).tr hE11⟩
        · have b1 : (C2 != 0) = false := by rw [e0]; rfl
          have b2 : (C2 == 0) = true := by rw [e0]; rfl
          have hf' := hf
          rw [← HRL.out] at hf'
          have hsm := same_sorted hf' hp
          have hdl' : d.length = n9 := hdl
          have HFR := Lib.hid hfr
          have HSM := Lib.hid hsm
          have HDL := Lib.hid hdl'
          have b3 : ((n9 : Int) == (n9 : Int)) = true := by simp
          clear e0 HRES hf hf' hfr hdl hp hpw hsm hdl' HRL hF
          go_wp2_with fail
          go_loopw [16] (fun v16 wr => ∃ i : Nat, i ≤ n9 ∧ v16 = .int .i64 (i : Int) ∧ Ext w10 wr) (fun v _ => n9 - (intOf v).toNat)
          case atStart => exact ⟨0, Nat.zero_le _, rfl, Ext.refl _⟩
          case round =>
            obtain ⟨i, hi, rfl, hE11⟩ := hrel
            have hE9' := hE10.tr hE11
            by_cases hlt : i < n9
            · have hid : i < d.length := by rw [HDL.out]; exact hlt
              obtain ⟨ad2, rfl, c0, c1, c2', c3, hr2⟩ := (HFR.out.ext hE9').el i hid
              obtain ⟨c4, c5', c6, c7⟩ := hb8.cell i (by rw [List.length_replicate]; exact hlt)
              rw [List.getElem_replicate] at c4 c5' c6 c7
              obtain ⟨hcan, hfo⟩ := HSM.out i hid
              have q4 := Later.cell ((hE9.tr hE9').cell c4)
              have q5 := Later.cell ((hE9.tr hE9').cell c5')
              have q6 := Later.cell ((hE9.tr hE9').cell c6)
              have q7 := Later.cell ((hE9.tr hE9').cell c7)
              have q0 := Later.cell c0
              have q1 := Later.cell c1
              have q2 := Later.cell c2'
              have q3 := Later.cell c3
              have HCAN := Lib.hid hcan
              clear hcan hfo c0 c1 c2' c3 c4 c5' c6 c7
              generalize d[i].A = B2 at *
              generalize d[i].c = e2 at *
              generalize d[i].f = y at *
              have his := fun (V : Later wr) => lis_c y.kind z.k y.exp z.e y.neg z.neg B2 z.A e2 z.c (cn y.mag) z.xs V.v (hr2.ext V.h) (hzr.ext (((hEd.tr hE9).tr hE9').tr V.h)) (by omega) y HCAN.out
              rw [show decide (y.kind = y.kind ∧ y.neg = y.neg ∧ y.exp = y.exp ∧ cn y.mag = cn y.mag) = true by simp] at his
              have hth := fun (V : Later wr) => their_c z.k z.e z.neg z.A z.xs.length z.c V.v
              obtain ⟨yk, yn, ye, ym⟩ := y
              obtain ⟨zk, zn, ze, zA, zc, zxs⟩ := z
              simp only at q0 q1 q2 q3 q4 q5 q6 q7 his hth
              generalize cn ym = ys at *
              have g0 : (0 : Int) ≤ (i : Int) := by omega
              have g3 : (i : Int) < (n9 : Int) := by omega
              have g4 : ((i : Int) * 4).toNat = i * 4 := by omega
              clear hid hr2
              go_wp2_with fail
              refine wp_region_later (by kernel_rfl) (by kernel_rfl) ?_
              repeat (go_big_quiet_step (first
                | (go_at_call 11; (with_reducible refine Calls.later (hth _)))
                | (go_at_call 10; (with_reducible refine Calls.later (his _)))))
              refine wpQuiet_nil ?_
              intro wq hw'
              obtain ⟨⟨w7, hE7⟩, hw7⟩ := hw'
              replace hw7 : wq = w7 := hw7
              rw [hw7]
              clear hw7 wq q0 q1 q2 q3 q4 q5 q6 q7 his hth
              go_wp2_with fail
              go_roundw
              case rel => exact ⟨i + 1, hlt, by go_num, hE11.tr hE7⟩
              case measure => simp [intOf]; omega
            · obtain rfl : i = n9 := by omega
              go_wp2_with fail
              refine (haw _ ((hEd.tr hE9).tr hE9')).mono ?_
              rintro z11 w11 ⟨rfl, hE12⟩
              go_wp2_with fail
              go_ret
              exact ⟨rfl, ((hEd.tr hE9).tr hE9').tr hE12⟩
theorem orderSorts_c (k p : Int) (A : Option Addr) (n c m : Nat) (w : World) (hT : Tab w) (hl : n ≤ 1000000 → ∃ l : List FA, l.length = n ∧ FRd w A c l) (hm : m < 65536) :
    Calls Tryz.prog 3 #[.agg #[.int .i64 k, .int .i64 p], .slice A n c, .int .u16 (m : Int)] w fun e w' => e = .returned (.bool true) ∧ Ext w w' := by
  by_cases hn : 30 < n
  · exact orderSorts_many k p A n c m w hT hn
  · obtain ⟨l, rfl, h⟩ := hl (by omega)
    by_cases hs : l.all (fun a => decide (a.xs.length ≤ 40)) = true
    · exact orderSorts_fit k p A c m hm l w hT (by omega) h fun a ha => of_decide_eq_true (List.all_eq_true.1 hs a ha)
    · exact orderSorts_wide k p A c m l w hT (by omega) h hs
end Go.Proofs.YtlnfmngginihfaaGreatDoor
