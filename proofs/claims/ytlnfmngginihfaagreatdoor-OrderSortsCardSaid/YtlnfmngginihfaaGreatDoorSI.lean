/- slices.symMergeCmpFunc on a row of floats. slices.symMergeCmpFunc on a row of floats: the general case, and all of it. slices.symMergeCmpFunc in full; slices.stableCmpFunc, slices.SortStableFunc on a row of floats. order.Sort: a row of floats of the call's own, as the sort takes it, and back. -/
import Derived.Test.YtlnfmngginihfaaGreatDoorSE
import Derived.Test.YtlnfmngginihfaaGreatDoorSB
import Derived.Deep.CutRange
import Derived.Test.YtlnfmngginihfaaGreatDoorN9
set_option linter.unusedVariables false
set_option linter.unusedSimpArgs false
namespace Go.Proofs.YtlnfmngginihfaaGreatDoor
open Go.RowKit Go.Sort

theorem wru {s : Nat} (h : s ≤ 2000000) : IntKind.u64.wrap (s : Int) = (s : Int) := by rw [IntKind.wrap_u64]; omega
theorem wri {s : Nat} (h : s ≤ 2000000) : wrap64 (s : Int) = (s : Int) := by unfold wrap64; omega
theorem half_facts {lo hi N : Nat} (h : lo < hi) (hh : hi ≤ N) (hN : N ≤ 1000000) : ∃ s c : Nat, (lo : Int) + (hi : Int) = (s : Int) ∧ (s : Int) / 2 = (c : Int) ∧ lo ≤ c ∧ c < hi ∧ IntKind.u64.wrap (s : Int) = (s : Int) ∧ wrap64 (c : Int) = (c : Int) ∧ IntKind.u64.wrap (c : Int) = (c : Int) ∧ s ≤ 2000000 ∧ c ≤ 1000000 ∧ (c : Int) < (N : Int) ∧ c < N :=
  ⟨lo + hi, (lo + hi) / 2, by omega, by omega, by omega, by omega, wru (by omega), wri (by omega), wru (by omega), by omega, by omega, by omega, by omega⟩
theorem lt_sz {d : Array El} {N i : Nat} (hN : d.size = N) (h : i < N) : i < d.size := by omega
theorem lt_int {i N : Nat} (h : i < N) : (i : Int) < (N : Int) := by omega
theorem sub_neg' {x y : Int} (h : x - y < 0) : x < y := by omega
theorem neg_sub' {x y : Int} (h : x < y) : x - y < 0 := by omega
theorem meas_up {lo hi c : Nat} (h1 : lo ≤ c) (h2 : c < hi) : (intOf (.int .i64 (hi : Int))).toNat - (intOf (.int .i64 ((c : Int) + 1))).toNat < (intOf (.int .i64 (hi : Int))).toNat - (intOf (.int .i64 (lo : Int))).toNat := by
  simp [intOf]; omega
theorem meas_dn {lo hi c : Nat} (h1 : lo ≤ c) (h2 : c < hi) : (intOf (.int .i64 (c : Int))).toNat - (intOf (.int .i64 (lo : Int))).toNat < (intOf (.int .i64 (hi : Int))).toNat - (intOf (.int .i64 (lo : Int))).toNat := by
  simp [intOf]; omega
abbrev SymC (k p : Int) (w0 : World) (g q cap N : Nat) (d : Array El) (a m b : Nat) (w : World) : Prop :=
  Calls Tryz.prog 54 #[.slice (some ⟨g, 0, none⟩) N cap, .int .i64 (a : Int), .int .i64 (m : Int), .int .i64 (b : Int), .func (.func 16) #[] #[.pointer (some ⟨q, 0, none⟩)]] w
    fun e w' => e = .returned (.tuple #[]) ∧ ∃ d', PermIn a b d d' ∧ Srt (keyE k p) a b d' ∧ Sk w0 g d' w'

set_option maxHeartbeats 4000000 in
set_option maxRecDepth 100000 in
theorem sym_left (k p : Int) (wb w0 : World) (g q cap N : Nat) (C : Cmp k p wb w0 g q) (d : Array El) (a b : Nat) (hN : d.size = N) (hN2 : N ≤ 1000000) (hmb : a + 1 < b) (hb : b ≤ N) (hG : ∀ i, i < N → Good k p w0 g d[i]!) (h2 : Srt (keyE k p) (a + 1) b d) (w : World) (h : Sk w0 g d w) :
    SymC k p w0 g q cap N d a (a + 1) b w := by
  unfold SymC
  obtain ⟨m, hm⟩ : ∃ m, a + 1 = m := ⟨_, rfl⟩
  have hml := mono_left h2
  rw [hm] at h2 hml hmb ⊢
  have em : (m : Int) - (a : Int) = 1 := by omega
  have HM := Lib.hid hm
  have aN : a < N := by omega
  have a3 := lt_int aN
  have HTOP := Lib.hid hb
  go_enter Tryz.func54, Tryz.ntmps54
  go_wp2_with fail
  go_loopw [10, 11] (fun v10 v11 wr => ∃ (lo hi : Nat), v10 = .int .i64 (lo : Int) ∧ v11 = .int .i64 (hi : Int) ∧ Sk w0 g d wr ∧ Sch (fun t => keyE k p d[t]! < keyE k p d[a]!) m b lo hi) (fun v u _ => (intOf u).toNat - (intOf v).toNat)
  case atStart => exact ⟨m, b, rfl, rfl, h, Sch.start _ (by omega)⟩
  case round =>
    obtain ⟨lo, hi, rfl, rfl, hk, hsc⟩ := hrel
    have z1 := hsc.lo0
    have z2 := hsc.hi0
    have z3 := hsc.le
    clear em
    by_cases hlt : lo < hi
    · have hlt2 : (lo : Int) < (hi : Int) := by omega
      obtain ⟨s, c, e1, e2, hc1, hc2, -, -, -, b1, b2, b3, cN⟩ := half_facts hlt (show hi ≤ N from Nat.le_trans z2 HTOP.out) hN2
      have hup := fun h => hsc.up hml hc1 hc2 h
      have hdn := fun h => hsc.dn hml hc1 hc2 h
      obtain ⟨c0, c1, c2, c3⟩ := hk.cells c (lt_sz hN cN)
      obtain ⟨c4, c5, c6, c7⟩ := hk.cells a (lt_sz hN aN)
      have q0 := Later.cell c0
      have q1 := Later.cell c1
      have q2 := Later.cell c2
      have q3 := Later.cell c3
      have q4 := Later.cell c4
      have q5 := Later.cell c5
      have q6 := Later.cell c6
      have q7 := Later.cell c7
      have hC := fun (V : Later wr) => C.call (hG c cN) (hG a aN) (hk.gw.tr (Gw.of_ext V.h g))
      have hiff := sgn_neg (z := keyE k p d[c]! - keyE k p d[a]!)
      obtain ⟨S, hS⟩ : ∃ S, sgn (keyE k p d[c]! - keyE k p d[a]!) = S := ⟨_, rfl⟩
      rw [hS] at hC hiff
      have HK := Lib.hid hk
      clear hS c0 c1 c2 c3 c4 c5 c6 c7 hk
      obtain ⟨u, hu⟩ : ∃ u, d[c]! = u := ⟨_, rfl⟩
      obtain ⟨v, hv⟩ : ∃ v, d[a]! = v := ⟨_, rfl⟩
      rw [hu] at hC q0 q1 q2 q3
      rw [hv] at hC q4 q5 q6 q7
      clear hu hv
      have HUP := Lib.hid hup
      have HDN := Lib.hid hdn
      have HN := Lib.hid hN
      clear hup hdn hN hml hsc hm
      by_cases hlv : S < 0
      · have HI := Lib.hid (hiff.1 hlv)
        clear hiff
        go_wp2_with fail
        refine wp_region_later (by kernel_rfl) (by kernel_rfl) ?_
        repeat (go_big_quiet_step (first
          | (go_at_call 16; (with_reducible refine Calls.later (hC _)))))
        refine wpQuiet_nil ?_
        intro wq hw'
        obtain ⟨⟨w3, hE3⟩, hw3⟩ := hw'
        replace hw3 : wq = w3 := hw3
        rw [hw3]
        clear hw3 wq q0 q1 q2 q3 q4 q5 q6 q7 hC
        have hk := (HK.out).ext hE3
        go_wp2_with fail
        go_roundw
        case rel => exact ⟨c + 1, hi, rfl, rfl, hk, HUP.out (sub_neg' HI.out)⟩
        case measure => exact meas_up hc1 hc2
      · have HI := Lib.hid (fun hh => hlv (hiff.2 hh))
        clear hiff
        go_wp2_with fail
        refine wp_region_later (by kernel_rfl) (by kernel_rfl) ?_
        repeat (go_big_quiet_step (first
          | (go_at_call 16; (with_reducible refine Calls.later (hC _)))))
        refine wpQuiet_nil ?_
        intro wq hw'
        obtain ⟨⟨w3, hE3⟩, hw3⟩ := hw'
        replace hw3 : wq = w3 := hw3
        rw [hw3]
        clear hw3 wq q0 q1 q2 q3 q4 q5 q6 q7 hC
        have hk := (HK.out).ext hE3
        go_wp2_with fail
        go_roundw
        case rel => exact ⟨lo, c, rfl, rfl, hk, HDN.out (Int.not_lt.1 (fun hh => HI.out (neg_sub' hh)))⟩
        case measure => exact meas_dn hc1 hc2
    · obtain rfl : lo = hi := by omega
      have HSC := Lib.hid hsc
      clear hsc hml
      go_wp2_with fail
      go_loopw [13] (fun v13 wr => ∃ (t : Nat) (dk : Array El), a ≤ t ∧ t ≤ lo - 1 ∧ v13 = .int .i64 (t : Int) ∧ PermIn a b d dk ∧ Sk w0 g dk wr ∧ ShR a t d dk) (fun v _ => lo - (intOf v).toNat)
      case atStart => exact ⟨a, d, Nat.le_refl _, by omega, rfl, perm_refl _ _ _, hk, ShR.start _ _⟩
      case round =>
        clear hk
        obtain ⟨t, dk, hat, htl, rfl, hp, hk, hsh⟩ := hrel
        have hz := hp.1
        have el : (lo : Int) - 1 = ((lo - 1 : Nat) : Int) := by omega
        by_cases htt : t < lo - 1
        · have ht2 : (t : Int) < ((lo - 1 : Nat) : Int) := by omega
          have hst := hsh.step hat (by omega) (by omega)
          have hpt := perm_trans hp (perm_swp (d := dk) (a := a) (b := b) (i := t) (j := t + 1) (by omega) (by omega) (by omega) (by omega) (by omega))
          obtain ⟨y, hy⟩ : ∃ y, t + 1 = y := ⟨_, rfl⟩
          rw [hy] at hst hpt
          have e1 : (t : Int) + 1 = (y : Int) := by omega
          have i1 : (t : Int) < (N : Int) := by omega
          have i2 : (y : Int) < (N : Int) := by omega
          have i3 : y ≤ 1000000 := by omega
          have y1 : a ≤ y := by omega
          have y2 : y ≤ lo - 1 := by omega
          have y3 : lo - y < lo - t := by omega
          obtain ⟨c0, c1, c2, c3⟩ := hk.cells t (by omega)
          obtain ⟨f0, f1, f2, f3⟩ := hk.frozen t (by omega)
          obtain ⟨c4, c5, c6, c7⟩ := hk.cells y (by omega)
          obtain ⟨f4, f5, f6, f7⟩ := hk.frozen y (by omega)
          have hsw := hk.swp8 t y (by omega) (by omega)
          have n0 : (t = y) = False := eq_false (by omega)
          have n1 : (y = t) = False := eq_false (by omega)
          generalize dk[t]! = u at c0 c1 c2 c3 hsw
          generalize dk[y]! = v at c4 c5 c6 c7 hsw
          have HSW := Lib.hid hsw
          have HST := Lib.hid hst
          have HPT := Lib.hid hpt
          have HN := Lib.hid hN
          clear hst hpt hsw hk hp hsh hz hN hy hm
          generalize lo - 1 = L1 at *
          go_wp2_with fail
          go_big_region
          go_wp2_with fail
          go_roundw
          case rel => exact ⟨y, _, y1, y2, by go_num, HPT.out, HSW.out, HST.out⟩
          case measure => simp [intOf]; omega
        · obtain rfl : t = lo - 1 := by omega
          have hdone := ins_left_sh (K := keyE k p) (by rw [HM.out]; exact h2) (by rw [HM.out]; exact HSC.out) hsh
          have HD := Lib.hid hdone
          clear hsh hdone hz hN hm
          generalize lo - 1 = L1 at *
          go_wp2_with fail
          first
            | (go_end0; exact ⟨rfl, dk, hp, HD.out, hk⟩)
            | (go_ret; exact ⟨rfl, dk, hp, HD.out, hk⟩)
            | (simp only [Exit.inBlock, Exit.then]; refine bodyPost_ret (results_none rfl _ _ _) rfl ?_; exact ⟨rfl, dk, hp, HD.out, hk⟩)
            | (refine bodyPost_ret (results_none rfl _ _ _) rfl ?_; exact ⟨rfl, dk, hp, HD.out, hk⟩)

set_option maxHeartbeats 4000000 in
set_option maxRecDepth 100000 in
theorem sym_right (k p : Int) (wb w0 : World) (g q cap N : Nat) (C : Cmp k p wb w0 g q) (d : Array El) (a m : Nat) (hN : d.size = N) (hN2 : N ≤ 1000000) (ham : a + 1 < m) (hb : m + 1 ≤ N) (hG : ∀ i, i < N → Good k p w0 g d[i]!) (h1 : Srt (keyE k p) a m d) (w : World) (h : Sk w0 g d w) :
    SymC k p w0 g q cap N d a m (m + 1) w := by
  unfold SymC
  obtain ⟨b, hbm⟩ : ∃ b, m + 1 = b := ⟨_, rfl⟩
  have hml := mono_right h1
  rw [hbm] at hb ⊢
  obtain ⟨x, hx⟩ : ∃ x, m - a = x := ⟨_, rfl⟩
  have e0 : (m : Int) - (a : Int) = (x : Int) := by omega
  have x1 : ((x : Int) == 1) = false := by rw [beq_eq_false_iff_ne]; omega
  have x2 : ((x : Int) = 1) = False := eq_false (by omega)
  have em : (b : Int) - (m : Int) = 1 := by omega
  have HM := Lib.hid hbm
  have mN : m < N := by omega
  have m3 := lt_int mN
  have HTOP := Lib.hid (Nat.le_of_lt mN)
  have ham2 : a ≤ m := by omega
  have mb1 : m < b := by omega
  clear hx
  go_enter Tryz.func54, Tryz.ntmps54
  go_wp2_with fail
  go_loopw [14, 15] (fun v14 v15 wr => ∃ (lo hi : Nat), v14 = .int .i64 (lo : Int) ∧ v15 = .int .i64 (hi : Int) ∧ Sk w0 g d wr ∧ Sch (fun t => keyE k p d[t]! ≤ keyE k p d[m]!) a m lo hi) (fun v u _ => (intOf u).toNat - (intOf v).toNat)
  case atStart => exact ⟨a, m, rfl, rfl, h, Sch.start _ ham2⟩
  case round =>
    obtain ⟨lo, hi, rfl, rfl, hk, hsc⟩ := hrel
    have z1 := hsc.lo0
    have z2 := hsc.hi0
    have z3 := hsc.le
    clear em e0 x1 x2
    by_cases hlt : lo < hi
    · have hlt2 : (lo : Int) < (hi : Int) := by omega
      obtain ⟨s, c, e1, e2, hc1, hc2, -, -, -, b1, b2, b3, cN⟩ := half_facts hlt (show hi ≤ N from Nat.le_trans z2 HTOP.out) hN2
      have hup := fun h => hsc.up hml hc1 hc2 h
      have hdn := fun h => hsc.dn hml hc1 hc2 h
      obtain ⟨c0, c1, c2, c3⟩ := hk.cells m (lt_sz hN mN)
      obtain ⟨c4, c5, c6, c7⟩ := hk.cells c (lt_sz hN cN)
      have q0 := Later.cell c0
      have q1 := Later.cell c1
      have q2 := Later.cell c2
      have q3 := Later.cell c3
      have q4 := Later.cell c4
      have q5 := Later.cell c5
      have q6 := Later.cell c6
      have q7 := Later.cell c7
      have hC := fun (V : Later wr) => C.call (hG m mN) (hG c cN) (hk.gw.tr (Gw.of_ext V.h g))
      have hiff := sgn_neg (z := keyE k p d[m]! - keyE k p d[c]!)
      obtain ⟨S, hS⟩ : ∃ S, sgn (keyE k p d[m]! - keyE k p d[c]!) = S := ⟨_, rfl⟩
      rw [hS] at hC hiff
      have HK := Lib.hid hk
      clear hS c0 c1 c2 c3 c4 c5 c6 c7 hk
      obtain ⟨u, hu⟩ : ∃ u, d[m]! = u := ⟨_, rfl⟩
      obtain ⟨v, hv⟩ : ∃ v, d[c]! = v := ⟨_, rfl⟩
      rw [hu] at hC q0 q1 q2 q3
      rw [hv] at hC q4 q5 q6 q7
      clear hu hv
      have HUP := Lib.hid hup
      have HDN := Lib.hid hdn
      have HN := Lib.hid hN
      clear hup hdn hN hml hsc hbm
      by_cases hlv : S < 0
      · have HI := Lib.hid (hiff.1 hlv)
        clear hiff
        go_wp2_with fail
        refine wp_region_later (by kernel_rfl) (by kernel_rfl) ?_
        repeat (go_big_quiet_step (first
          | (go_at_call 16; (with_reducible refine Calls.later (hC _)))))
        refine wpQuiet_nil ?_
        intro wq hw'
        obtain ⟨⟨w3, hE3⟩, hw3⟩ := hw'
        replace hw3 : wq = w3 := hw3
        rw [hw3]
        clear hw3 wq q0 q1 q2 q3 q4 q5 q6 q7 hC
        have hk := (HK.out).ext hE3
        go_wp2_with fail
        all_goals go_roundw
        all_goals first
          | exact ⟨lo, c, rfl, rfl, hk, HDN.out (sub_neg' HI.out)⟩
          | exact meas_dn hc1 hc2
      · have HI := Lib.hid (fun hh => hlv (hiff.2 hh))
        have hd : decide (S < 0) = false := decide_eq_false hlv
        have hf : (S < 0) = False := eq_false hlv
        clear hiff
        go_wp2_with fail
        refine wp_region_later (by kernel_rfl) (by kernel_rfl) ?_
        repeat (go_big_quiet_step (first
          | (go_at_call 16; (with_reducible refine Calls.later (hC _)))))
        refine wpQuiet_nil ?_
        intro wq hw'
        obtain ⟨⟨w3, hE3⟩, hw3⟩ := hw'
        replace hw3 : wq = w3 := hw3
        rw [hw3]
        clear hw3 wq q0 q1 q2 q3 q4 q5 q6 q7 hC
        have hk := (HK.out).ext hE3
        go_wp2_with fail
        go_roundw
        case rel => exact ⟨c + 1, hi, rfl, rfl, hk, HUP.out (Int.not_lt.1 (fun hh => HI.out (neg_sub' hh)))⟩
        case measure => exact meas_up hc1 hc2
    · obtain rfl : lo = hi := by omega
      have HSC := Lib.hid hsc
      clear hsc hml
      go_wp2_with fail
      go_loopw [17] (fun v17 wr => ∃ (t : Nat) (dk : Array El), lo ≤ t ∧ t ≤ m ∧ v17 = .int .i64 (t : Int) ∧ PermIn a b d dk ∧ Sk w0 g dk wr ∧ ShL m t d dk) (fun v _ => (intOf v).toNat)
      case atStart => exact ⟨m, d, z2, Nat.le_refl _, rfl, perm_refl _ _ _, hk, ShL.start _ _⟩
      case round =>
        clear hk
        obtain ⟨t, dk, hat, htl, rfl, hp, hk, hsh⟩ := hrel
        have hz := hp.1
        by_cases htt : lo < t
        · have ht2 : (lo : Int) < (t : Int) := lt_int htt
          obtain ⟨y, hy⟩ : ∃ y, t = y + 1 := ⟨t - 1, by omega⟩
          subst hy
          have hst := hsh.step (by omega) (by omega) (by omega)
          have hpt := perm_trans hp (perm_swp (d := dk) (a := a) (b := b) (i := y + 1) (j := y) (by omega) (by omega) (by omega) (by omega) (by omega))
          obtain ⟨t, hy⟩ : ∃ t, y + 1 = t := ⟨_, rfl⟩
          have i4 : t < dk.size := by omega
          have i5 : y < dk.size := by omega
          have i6 : t ≠ y := by omega
          have y1 : lo ≤ y := by omega
          have y2 : y ≤ m := by omega
          have y3 : y < t := by omega
          have i3 : t ≤ 1000000 := by omega
          rw [hy] at hst hpt ht2 ⊢
          have e1 : (t : Int) - 1 = (y : Int) := by omega
          have i1 : (t : Int) < (N : Int) := by omega
          have i2 : (y : Int) < (N : Int) := by omega
          obtain ⟨c0, c1, c2, c3⟩ := hk.cells t i4
          obtain ⟨f0, f1, f2, f3⟩ := hk.frozen t i4
          obtain ⟨c4, c5, c6, c7⟩ := hk.cells y i5
          obtain ⟨f4, f5, f6, f7⟩ := hk.frozen y i5
          have hsw := hk.swp8 t y i4 i5
          have n0 : (t = y) = False := eq_false i6
          have n1 : (y = t) = False := eq_false (Ne.symm i6)
          generalize dk[t]! = u at c0 c1 c2 c3 hsw
          generalize dk[y]! = v at c4 c5 c6 c7 hsw
          have HSW := Lib.hid hsw
          have HST := Lib.hid hst
          have HPT := Lib.hid hpt
          have HN := Lib.hid hN
          clear hst hpt hsw hk hp hsh hz hN hy hbm hat htl htt
          go_wp2_with fail
          go_big_region
          go_wp2_with fail
          go_roundw
          case rel => exact ⟨y, _, y1, y2, rfl, HPT.out, HSW.out, HST.out⟩
          case measure => exact y3
        · obtain rfl : t = lo := by omega
          have hdone := ins_right_sh (K := keyE k p) h1 HSC.out hsh
          rw [HM.out] at hdone
          have HD := Lib.hid hdone
          clear hsh hdone hz hN hbm
          go_wp2_with fail
          first
            | (go_end0; exact ⟨rfl, dk, hp, HD.out, hk⟩)
            | (go_ret; exact ⟨rfl, dk, hp, HD.out, hk⟩)
            | (simp only [Exit.inBlock, Exit.then]; refine bodyPost_ret (results_none rfl _ _ _) rfl ?_; exact ⟨rfl, dk, hp, HD.out, hk⟩)
            | (refine bodyPost_ret (results_none rfl _ _ _) rfl ?_; exact ⟨rfl, dk, hp, HD.out, hk⟩)
end Go.Proofs.YtlnfmngginihfaaGreatDoor
namespace Go.Proofs.YtlnfmngginihfaaGreatDoor
open Go.RowKit Go.Sort

theorem idx_facts {pp c s0 r0 b m N : Nat} (hc : s0 ≤ c) (hr : c < r0) (hp : pp < b + s0) (hm : m + r0 ≤ pp + 1) (hm0 : 0 < m) (hb : b ≤ N) : ∃ y, pp - c = y ∧ (pp : Int) - (c : Int) = (y : Int) ∧ y < N ∧ (y : Int) < (N : Int) := ⟨pp - c, rfl, by omega, by omega, by omega⟩
theorem tail_facts {k p : Int} {a m b mid s n : Nat} {d : Array El} (hc : Cut (keyE k p) a m b mid s d) (hn : mid + m = n) : ∃ e, mid + m - s = e ∧ (n : Int) - (s : Int) = (e : Int) ∧ mid ≤ e ∧ m ≤ e ∧ e ≤ b ∧ a ≤ s ∧ s ≤ mid ∧ s ≤ m := by
  have h1 := hc.as
  have h2 := hc.sm
  have h3 := hc.smid
  have h4 := hc.eb
  exact ⟨mid + m - s, rfl, by omega, by omega, by omega, h4, h1, h3, h2⟩
def RotR (k p : Int) (w0 : World) (g a s mid e b : Nat) (d : Array El) (w : World) : Prop := ∃ d1, Half (keyE k p) a s mid e b d1 ∧ PermIn s e d d1 ∧ Sk w0 g d1 w
def LefR (k p : Int) (w0 : World) (g a mid : Nat) (d1 : Array El) (w : World) : Prop := ∃ d2, PermIn a mid d1 d2 ∧ Srt (keyE k p) a mid d2 ∧ Sk w0 g d2 w
theorem guard_yes {x y z t : Nat} {b : Bool} (h1 : x < y) (h2 : z < t) (h : (decide (x < y) && decide (z < t)) = b) : true = b := by rw [← h, decide_eq_true h1, decide_eq_true h2]; rfl
theorem guard_no {x y z t : Nat} {b : Bool} (hn : ¬ (x < y ∧ z < t)) (h : (decide (x < y) && decide (z < t)) = b) : false = b := by
  rw [← h]
  by_cases h1 : x < y
  · rw [decide_eq_true h1, decide_eq_false (fun h2 => hn ⟨h1, h2⟩)]; rfl
  · rw [decide_eq_false h1]; rfl
theorem guard_use {x y z t : Nat} {b : Bool} (h : (decide (x < y) && decide (z < t)) = b) : (b = true ∧ x < y ∧ z < t) ∨ (b = false ∧ ¬ (x < y ∧ z < t)) := by
  by_cases h1 : x < y ∧ z < t
  · exact .inl ⟨(guard_yes h1.1 h1.2 h).symm, h1⟩
  · exact .inr ⟨(guard_no h1 h).symm, h1⟩
theorem nlt_int {i j : Nat} (h : ¬ i < j) : ¬ (i : Int) < (j : Int) := by omega
set_option maxHeartbeats 8000000 in
set_option maxRecDepth 100000 in
theorem sym_main (k p : Int) (wb w0 : World) (g q cap N : Nat) (C : Cmp k p wb w0 g q) (d : Array El) (a m b : Nat) (hN : d.size = N) (hN2 : N ≤ 1000000) (ham : a + 1 < m) (hmb : m + 1 < b) (hb : b ≤ N) (hG : ∀ i, i < N → Good k p w0 g d[i]!) (h1 : Srt (keyE k p) a m d) (h2 : Srt (keyE k p) m b d)
    (IH : ∀ (d' : Array El) (a' m' b' : Nat), b' - a' < b - a → a' < m' → m' < b' → b' ≤ N → d'.size = N → (∀ i, i < N → Good k p w0 g d'[i]!) → Srt (keyE k p) a' m' d' → Srt (keyE k p) m' b' d' → ∀ w, Sk w0 g d' w → SymC k p w0 g q cap N d' a' m' b' w)
    (w : World) (h : Sk w0 g d w) : SymC k p w0 g q cap N d a m b w := by
  unfold SymC at IH ⊢
  obtain ⟨S0, mid, e1, e2, hm1, hm2, -, -, -, b1, b2, b3, midN⟩ := half_facts (show a < b by omega) hb hN2
  have hmid : mid = (a + b) / 2 := by omega
  obtain ⟨ra, rb, rc, rd, re, rf⟩ := sym_ranges (a := a) (m := m) (b := b) (mid := mid) (by omega) (by omega) hmid
  have hcase : (mid < m ∧ s0S m b mid a = mid + m - b ∧ r0S m mid = mid) ∨ (¬ mid < m ∧ s0S m b mid a = a ∧ r0S m mid = m) := by
    unfold s0S r0S
    by_cases hh : mid < m
    · exact .inl ⟨hh, by rw [if_pos hh], by rw [if_pos hh]⟩
    · exact .inr ⟨hh, by rw [if_neg hh], by rw [if_neg hh]⟩
  have hcut := fun s => cut_of (K := keyE k p) (a := a) (m := m) (b := b) (mid := mid) (s := s) (d := d) (by omega) (by omega) hmid
  obtain ⟨s0, hs0⟩ : ∃ s0, s0S m b mid a = s0 := ⟨_, rfl⟩
  obtain ⟨r0, hr0⟩ : ∃ r0, r0S m mid = r0 := ⟨_, rfl⟩
  obtain ⟨n, hn⟩ : ∃ n, mid + m = n := ⟨_, rfl⟩
  obtain ⟨pp, hpp⟩ : ∃ pp, mid + m - 1 = pp := ⟨_, rfl⟩
  rw [hs0] at hcase hcut ra rb rd
  rw [hr0] at hcase hcut rb rc re rf
  rw [hpp] at hcut rd re
  have hml := mono_sym (K := keyE k p) h1 h2 ra rc rd re
  have em : (m : Int) - (a : Int) = ((m - a : Nat) : Int) := by omega
  have eb : (b : Int) - (m : Int) = ((b - m : Nat) : Int) := by omega
  have em1 : (((m - a : Nat) : Int) = 1) = False := eq_false (by omega)
  have eb1 : (((b - m : Nat) : Int) = 1) = False := eq_false (by omega)
  have em2 : (((m - a : Nat) : Int) == 1) = false := by rw [beq_eq_false_iff_ne]; omega
  have eb2 : (((b - m : Nat) : Int) == 1) = false := by rw [beq_eq_false_iff_ne]; omega
  have en : (mid : Int) + (m : Int) = (n : Int) := by omega
  have en2 : n ≤ 2000000 := by omega
  have ep : (n : Int) - 1 = (pp : Int) := by omega
  have hcase2 : ((mid : Int) < (m : Int) ∧ (n : Int) - (b : Int) = (s0 : Int) ∧ r0 = mid) ∨ (¬ (mid : Int) < (m : Int) ∧ s0 = a ∧ r0 = m) := by
    rcases hcase with ⟨g1, g2, g3⟩ | ⟨g1, g2, g3⟩
    · exact .inl ⟨by omega, by omega, g3⟩
    · exact .inr ⟨by omega, g2, g3⟩
  have r0N : r0 ≤ N := by omega
  have m0 : 0 < m := by omega
  have mN : m ≤ N := by omega
  have dl : mid - a < b - a := by omega
  have dr : b - mid < b - a := by omega
  have hmb' : m ≤ b := by omega
  have hbd : b ≤ d.size := by omega
  have HTOP := Lib.hid r0N
  have HNN := Lib.hid hn
  have HSIZ := Lib.hid hN
  clear hcase hs0 hr0 hn hpp hmid r0N
  have HCUT := Lib.hid hcut
  have HIH := Lib.hid IH
  have H1 := Lib.hid h1
  have H2 := Lib.hid h2
  clear hcut IH h1 h2
  generalize m - a = x1 at *
  generalize b - m = x2 at *
  go_enter Tryz.func54, Tryz.ntmps54
  go_upto_if 140 with fail
  go_cut [20, 21] from 138 to 146 (fun s20 s21 wx => s20 = .int .i64 (s0 : Int) ∧ s21 = .int .i64 (r0 : Int) ∧ wx = w)
  case first =>
    rcases hcase2 with ⟨g1, g2, g3⟩ | ⟨g1, g2, g3⟩
    · subst g3
      go_wp2_with fail
      go_meet
      exact ⟨rfl, rfl, rfl⟩
    · subst g2 g3
      go_wp2_with fail
      go_meet
      exact ⟨rfl, rfl, rfl⟩
  case rest =>
    obtain ⟨rfl, rfl, rfl⟩ := hcut
    clear hcase2 em eb em1 eb1 em2 eb2 e1 e2
    go_wp2_with fail
    go_loopw [20, 21] (fun v20 v21 wr => ∃ (lo hi : Nat), v20 = .int .i64 (lo : Int) ∧ v21 = .int .i64 (hi : Int) ∧ Sk w0 g d wr ∧ Sch (fun c => keyE k p d[c]! ≤ keyE k p d[pp - c]!) s0 r0 lo hi) (fun v u _ => (intOf u).toNat - (intOf v).toNat)
    case atStart => exact ⟨s0, r0, rfl, rfl, h, Sch.start _ rb⟩
    case round =>
      obtain ⟨lo, hi, rfl, rfl, hk, hsc⟩ := hrel
      have z1 := hsc.lo0
      have z2 := hsc.hi0
      have z3 := hsc.le
      by_cases hlt : lo < hi
      · have hlt2 : (lo : Int) < (hi : Int) := lt_int hlt
        obtain ⟨s, c, e1, e2, hc1, hc2, -, -, -, b1, b2, b3, cN⟩ := half_facts hlt (show hi ≤ N from Nat.le_trans z2 HTOP.out) hN2
        obtain ⟨y, hy, ey, yN, y3⟩ := idx_facts (Nat.le_trans z1 hc1) (Nat.lt_of_lt_of_le hc2 z2) rd re m0 hb
        have hup := fun h => hsc.up hml hc1 hc2 h
        have hdn := fun h => hsc.dn hml hc1 hc2 h
        simp only [hy] at hup hdn
        obtain ⟨c0, c1, c2, c3⟩ := hk.cells y (lt_sz hN yN)
        obtain ⟨c4, c5, c6, c7⟩ := hk.cells c (lt_sz hN cN)
        have q0 := Later.cell c0
        have q1 := Later.cell c1
        have q2 := Later.cell c2
        have q3 := Later.cell c3
        have q4 := Later.cell c4
        have q5 := Later.cell c5
        have q6 := Later.cell c6
        have q7 := Later.cell c7
        have hC := fun (V : Later wr) => C.call (hG y yN) (hG c cN) (hk.gw.tr (Gw.of_ext V.h g))
        have hiff := sgn_neg (z := keyE k p d[y]! - keyE k p d[c]!)
        obtain ⟨S, hS⟩ : ∃ S, sgn (keyE k p d[y]! - keyE k p d[c]!) = S := ⟨_, rfl⟩
        rw [hS] at hC hiff
        have HK := Lib.hid hk
        clear hS c0 c1 c2 c3 c4 c5 c6 c7 hk
        obtain ⟨u, hu⟩ : ∃ u, d[y]! = u := ⟨_, rfl⟩
        obtain ⟨v, hv⟩ : ∃ v, d[c]! = v := ⟨_, rfl⟩
        rw [hu] at hC q0 q1 q2 q3
        rw [hv] at hC q4 q5 q6 q7
        clear hu hv
        have HUP := Lib.hid hup
        have HDN := Lib.hid hdn
        have HN := Lib.hid hN
        clear hup hdn hN hml hsc hy
        by_cases hlv : S < 0
        · have HI := Lib.hid (hiff.1 hlv)
          clear hiff
          go_wp2_with fail
          refine wp_region_later (by kernel_rfl) (by kernel_rfl) ?_
          repeat (go_big_quiet_step (first
            | (go_at_call 16; (with_reducible refine Calls.later (hC _)))))
          refine wpQuiet_nil ?_
          intro wq hw'
          obtain ⟨⟨w3, hE3⟩, hw3⟩ := hw'
          replace hw3 : wq = w3 := hw3
          rw [hw3]
          clear hw3 wq q0 q1 q2 q3 q4 q5 q6 q7 hC
          have hk := (HK.out).ext hE3
          go_wp2_with fail
          all_goals go_roundw
          all_goals first
            | exact ⟨lo, c, rfl, rfl, hk, HDN.out (Int.not_le.2 (sub_neg' HI.out))⟩
            | exact ⟨lo, c, rfl, rfl, hk, HDN.out (sub_neg' HI.out)⟩
            | exact meas_dn hc1 hc2
        · have HI := Lib.hid (fun hh => hlv (hiff.2 hh))
          have hd : decide (S < 0) = false := decide_eq_false hlv
          have hf : (S < 0) = False := eq_false hlv
          clear hiff
          go_wp2_with fail
          refine wp_region_later (by kernel_rfl) (by kernel_rfl) ?_
          repeat (go_big_quiet_step (first
            | (go_at_call 16; (with_reducible refine Calls.later (hC _)))))
          refine wpQuiet_nil ?_
          intro wq hw'
          obtain ⟨⟨w3, hE3⟩, hw3⟩ := hw'
          replace hw3 : wq = w3 := hw3
          rw [hw3]
          clear hw3 wq q0 q1 q2 q3 q4 q5 q6 q7 hC
          have hk := (HK.out).ext hE3
          go_wp2_with fail
          go_roundw
          case rel => exact ⟨c + 1, hi, rfl, rfl, hk, HUP.out (Int.not_lt.1 (fun hh => HI.out (neg_sub' hh)))⟩
          case measure => exact meas_up hc1 hc2
      · obtain rfl : lo = hi := Nat.le_antisymm z3 (Nat.le_of_not_lt hlt)
        have hc := HCUT.out lo hsc
        obtain ⟨e, he, ee, ge1, ge2, ge3, ge4, ge5, ge6⟩ := tail_facts hc HNN.out
        have HC := Lib.hid hc
        have HE := Lib.hid he
        have HDL := Lib.hid dl
        have HDR := Lib.hid dr
        clear hsc hml hc he ham hmb b1 b3 ra rf rc rb re rd z1 z2 z3 hlt m0 dl dr HTOP HCUT
        obtain ⟨bR, hbR⟩ : ∃ bR, (decide (lo < m) && decide (m < e)) = bR := ⟨_, rfl⟩
        go_upto_region 39 with fail
        go_cut [185] from 178 to 185 (fun sv wx => sv = .bool bR ∧ wx = wr)
        case first =>
          by_cases hA : lo < m
          · have hA2 := lt_int hA
            by_cases hB : m < e
            · have hB2 := lt_int hB
              have hbb := guard_yes hA hB hbR
              clear hbR
              subst hbb
              go_wp2_with fail
              go_meet
              exact ⟨rfl, rfl⟩
            · have hB2 := nlt_int hB
              have hbb := guard_no (fun hh => hB hh.2) hbR
              clear hbR
              subst hbb
              go_wp2_with fail
              go_meet
              exact ⟨rfl, rfl⟩
          · have hA2 := nlt_int hA
            have hbb := guard_no (fun hh => hA hh.1) hbR
            clear hbR
            subst hbb
            go_wp2_with fail
            go_meet
            exact ⟨rfl, rfl⟩
        case rest =>
          obtain ⟨rfl, rfl⟩ := hcut
          go_upto_if 185 with fail
          go_cut [] from 186 to 191 (fun wx => RotR k p w0 g a lo mid e b d wx)
          case first =>
            rcases guard_use hbR with ⟨hb1, hA, hB⟩ | ⟨hb1, hn⟩
            · subst hb1
              have hro := fun w h => rotate_c w0 g cap N (.func (.func 16) #[] #[.pointer (some ⟨q, 0, none⟩)]) d lo m e HSIZ.out hN2 hA hB (Nat.le_trans ge3 hb) w h
              clear hN hbR
              go_wp2_with fail
              refine (hro _ hk).mono ?_
              rintro z w2 ⟨rfl, d1, hr, hp, hk1⟩
              have HR := Lib.hid hr
              clear hr
              go_wp2_with fail
              go_meet
              exact ⟨d1, by rw [← HE.out]; exact Half.of HC.out hmb' H1.out H2.out (by rw [HE.out]; exact HR.out), hp, hk1⟩
            · subst hb1
              clear hN hbR
              go_wp2_with fail
              go_meet
              exact ⟨d, by rw [← HE.out]; exact Half.of HC.out hmb' H1.out H2.out (rot_idle HC.out (fun hh => hn ⟨hh.1, by rw [← HE.out]; exact hh.2⟩)), perm_refl _ _ _, hk⟩
          case rest =>
            obtain ⟨d1, H, hp1, hk1⟩ := hcut
            have hz1 : d1.size = N := hp1.1.trans HSIZ.out
            have hG1 := all_perm hp1 (Nat.le_trans ge3 hbd) hG HSIZ.out
            clear hk hN
            have HH := Lib.hid H
            have HP1 := Lib.hid hp1
            have HZ1 := Lib.hid hz1
            clear H hp1 hz1
            obtain ⟨bL, hbL⟩ : ∃ bL, (decide (a < lo) && decide (lo < mid)) = bL := ⟨_, rfl⟩
            go_upto_region 41 with fail
            go_cut [199] from 192 to 199 (fun sv wx => sv = .bool bL ∧ wx = wc)
            case first =>
              by_cases hA : a < lo
              · have hA2 := lt_int hA
                by_cases hB : lo < mid
                · have hB2 := lt_int hB
                  have hbb := guard_yes hA hB hbL
                  clear hbL
                  subst hbb
                  go_wp2_with fail
                  go_meet
                  exact ⟨rfl, rfl⟩
                · have hB2 := nlt_int hB
                  have hbb := guard_no (fun hh => hB hh.2) hbL
                  clear hbL
                  subst hbb
                  go_wp2_with fail
                  go_meet
                  exact ⟨rfl, rfl⟩
              · have hA2 := nlt_int hA
                have hbb := guard_no (fun hh => hA hh.1) hbL
                clear hbL
                subst hbb
                go_wp2_with fail
                go_meet
                exact ⟨rfl, rfl⟩
            case rest =>
              obtain ⟨rfl, rfl⟩ := hcut
              go_upto_if 199 with fail
              go_cut [] from 200 to 205 (fun wx => LefR k p w0 g a mid d1 wx)
              case first =>
                rcases guard_use hbL with ⟨hb1, hA, hB⟩ | ⟨hb1, hn⟩
                · subst hb1
                  have hre := HIH.out d1 a lo mid HDL.out hA hB (Nat.le_of_lt midN) HZ1.out hG1 HH.out.h1 HH.out.h2
                  clear hbL
                  go_wp2_with fail
                  refine (hre _ hk1).mono ?_
                  rintro z w2 ⟨rfl, d2, hp, hs, hk2⟩
                  go_wp2_with fail
                  go_meet
                  exact ⟨d2, hp, hs, hk2⟩
                · subst hb1
                  clear hbL
                  go_wp2_with fail
                  go_meet
                  exact ⟨d1, perm_refl _ _ _, HH.out.left ge4 ge5 hn, hk1⟩
              case rest =>
                obtain ⟨d2, hp2, hs2, hk2⟩ := hcut
                have hz2 : d2.size = N := hp2.1.trans HZ1.out
                have hG2 := all_perm hp2 (Nat.le_trans (Nat.le_of_lt midN) (Nat.le_of_eq HZ1.out.symm)) hG1 HZ1.out
                have HP2 := Lib.hid hp2
                have HS2 := Lib.hid hs2
                have HZ2 := Lib.hid hz2
                clear hk1 hp2 hs2 hz2
                have hfin := fun d3 (p3 : PermIn mid b d2 d3) (s3 : Srt (keyE k p) mid b d3) => sym_done (K := keyE k p) (m := m) hbd hm1 (Nat.le_of_lt hm2) ge4 ge3 HP1.out HH.out HP2.out HS2.out p3 s3
                have HF := Lib.hid hfin
                clear hfin
                obtain ⟨bX, hbX⟩ : ∃ bX, (decide (mid < e) && decide (e < b)) = bX := ⟨_, rfl⟩
                go_upto_region 43 with fail
                go_cut [213] from 206 to 213 (fun sv wx => sv = .bool bX ∧ wx = wc)
                case first =>
                  by_cases hA : mid < e
                  · have hA2 := lt_int hA
                    by_cases hB : e < b
                    · have hB2 := lt_int hB
                      have hbb := guard_yes hA hB hbX
                      clear hbX
                      subst hbb
                      go_wp2_with fail
                      go_meet
                      exact ⟨rfl, rfl⟩
                    · have hB2 := nlt_int hB
                      have hbb := guard_no (fun hh => hB hh.2) hbX
                      clear hbX
                      subst hbb
                      go_wp2_with fail
                      go_meet
                      exact ⟨rfl, rfl⟩
                  · have hA2 := nlt_int hA
                    have hbb := guard_no (fun hh => hA hh.1) hbX
                    clear hbX
                    subst hbb
                    go_wp2_with fail
                    go_meet
                    exact ⟨rfl, rfl⟩
                case rest =>
                  obtain ⟨rfl, rfl⟩ := hcut
                  rcases guard_use hbX with ⟨hb1, hA, hB⟩ | ⟨hb1, hn⟩
                  · subst hb1
                    have hkp := HH.out.kept ge1 HP2.out
                    have hre := HIH.out d2 mid e b HDR.out hA hB hb HZ2.out hG2 hkp.1 hkp.2
                    clear hkp hbX
                    go_wp2_with fail
                    refine (hre _ hk2).mono ?_
                    rintro z w2 ⟨rfl, d3, hp, hs, hk3⟩
                    have HFF := Lib.hid (HF.out d3 hp hs)
                    clear hs hp
                    go_wp2_with fail
                    go_end0
                    exact ⟨rfl, d3, HFF.out.1, HFF.out.2, hk3⟩
                  · subst hb1
                    have HFF := Lib.hid (HF.out d2 (perm_refl _ _ _) (HH.out.right' ge1 ge3 hn HP2.out))
                    clear hbX
                    go_wp2_with fail
                    go_end0
                    exact ⟨rfl, d2, HFF.out.1, HFF.out.2, hk2⟩
end Go.Proofs.YtlnfmngginihfaaGreatDoor
namespace Go.Proofs.YtlnfmngginihfaaGreatDoor
open Go.RowKit Go.Sort

theorem symMerge_c (k p : Int) (wb w0 : World) (g q cap N : Nat) (C : Cmp k p wb w0 g q) (hN2 : N ≤ 1000000) : ∀ (L : Nat) (d : Array El) (a m b : Nat), b - a ≤ L → a < m → m < b → b ≤ N → d.size = N → (∀ i, i < N → Good k p w0 g d[i]!) → Srt (keyE k p) a m d → Srt (keyE k p) m b d →
    ∀ w, Sk w0 g d w → SymC k p w0 g q cap N d a m b w
  | 0, d, a, m, b, hL, ham, hmb, hb, hN, hG, h1, h2, w, h => by omega
  | L + 1, d, a, m, b, hL, ham, hmb, hb, hN, hG, h1, h2, w, h => by
    by_cases e1 : a + 1 = m
    · subst e1
      exact sym_left k p wb w0 g q cap N C d a b hN hN2 hmb hb hG h2 w h
    · by_cases e2 : m + 1 = b
      · subst e2
        exact sym_right k p wb w0 g q cap N C d a m hN hN2 (by omega) hb hG h1 w h
      · exact sym_main k p wb w0 g q cap N C d a m b hN hN2 (by omega) (by omega) hb hG h1 h2 (fun d' a' m' b' hlt h3 h4 h5 h6 h7 h8 h9 => symMerge_c k p wb w0 g q cap N C hN2 L d' a' m' b' (by omega) h3 h4 h5 h6 h7 h8 h9) w h
set_option maxHeartbeats 8000000 in
set_option maxRecDepth 100000 in
theorem stable_c (k p : Int) (wb w0 : World) (g q cap N : Nat) (C : Cmp k p wb w0 g q) (d : Array El) (hN : d.size = N) (hN2 : N ≤ 100000) (hG : ∀ i, i < N → Good k p w0 g d[i]!) (w : World) (h : Sk w0 g d w) :
    Calls Tryz.prog 32 #[.slice (some ⟨g, 0, none⟩) N cap, .int .i64 (N : Int), .func (.func 16) #[] #[.pointer (some ⟨q, 0, none⟩)]] w fun e w' => e = .returned (.tuple #[]) ∧ ∃ d', PermIn 0 N d d' ∧ Srt (keyE k p) 0 N d' ∧ Sk w0 g d' w' := by
  go_enter Tryz.func32, Tryz.ntmps32
  go_wp2_with fail
  go_loopw [7, 8] (fun v7 v8 wr => ∃ (Q : Nat) (dk : Array El), Q * 20 ≤ N ∧ v7 = .int .i64 ((Q * 20 : Nat) : Int) ∧ v8 = .int .i64 ((Q * 20 + 20 : Nat) : Int) ∧ PermIn 0 N d dk ∧ Blo (keyE k p) 20 N (Q * 20) dk ∧ Sk w0 g dk wr) (fun _ v _ => N + 20 - (intOf v).toNat)
  case atStart => exact ⟨0, d, by omega, by go_num, by go_num, perm_refl _ _ _, Blo.zero _ _ _ _, h⟩
  case round =>
    obtain ⟨Q, dk, hQ, rfl, rfl, hp, hbl, hk⟩ := hrel
    have hz := hp.1
    have hGk := all_perm hp (by omega) hG hN
    obtain ⟨a, ha⟩ : ∃ a, Q * 20 = a := ⟨_, rfl⟩
    obtain ⟨b, hb⟩ : ∃ b, Q * 20 + 20 = b := ⟨_, rfl⟩
    rw [hb, ha]
    have hba : b = a + 20 := by omega
    by_cases hlt : b ≤ N
    · have hlt2 : (b : Int) ≤ (N : Int) := by omega
      obtain ⟨c, hc⟩ : ∃ c, b + 20 = c := ⟨_, rfl⟩
      have b20 : (b : Int) + 20 = (c : Int) := by omega
      have cb : c ≤ 200000 := by omega
      have HCC := Lib.hid hc
      have HBA := Lib.hid hba
      clear hc
      have hin := fun w h => insertion_c k p wb w0 g q cap N C dk a b (by omega) (by omega) (by omega) hlt hGk w h
      unfold clo at hin
      have hnx := fun d' (p1 : PermIn a b dk d') (s1 : Srt (keyE k p) a b d') => Blo.step (K := keyE k p) (Q := Q) (d := dk) (d' := d') hbl (show a = Q * 20 from ha.symm) (show b = min (a + 20) N by omega) p1 s1
      have hpx := fun d' (p1 : PermIn a b dk d') => perm_trans hp (perm_up (Nat.zero_le a) hlt (show N ≤ dk.size by omega) p1)
      have HNX := Lib.hid hnx
      have HPX := Lib.hid hpx
      have HA := Lib.hid ha
      have HB := Lib.hid hb
      clear hnx hpx hp hbl hN hz ha hb hba hGk hQ
      go_wp2_with fail
      refine (hin _ hk).mono ?_
      rintro z w2 ⟨rfl, d', p1, s1, hk2⟩
      go_wp2_with fail
      have HNN := Lib.hid (HNX.out d' p1 s1)
      have HPP := Lib.hid (HPX.out d' p1)
      clear s1 p1
      go_roundw
      case rel => exact ⟨Q + 1, d', by have := HA.out; have := HBA.out; omega, by rw [show (Q + 1) * 20 = b by have := HB.out; omega], by rw [show (Q + 1) * 20 + 20 = c by have := HB.out; have := HCC.out; omega], HPP.out, by rw [show (Q + 1) * 20 = Q * 20 + 20 by omega]; exact HNN.out, hk2⟩
      case measure => have := HCC.out; simp [intOf]; omega
    · have hlt2 : ¬ (b : Int) ≤ (N : Int) := by omega
      have hin := fun w h => insertion_c k p wb w0 g q cap N C dk a N (by omega) (by omega) (by omega) (Nat.le_refl _) hGk w h
      unfold clo at hin
      have hnx := fun d' (p1 : PermIn a N dk d') (s1 : Srt (keyE k p) a N d') => Blo.step (K := keyE k p) (Q := Q) (d := dk) (d' := d') hbl (show a = Q * 20 from ha.symm) (show N = min (a + 20) N by omega) p1 s1
      have hpx := fun d' (p1 : PermIn a N dk d') => perm_trans hp (perm_up (Nat.zero_le a) (Nat.le_refl _) (show N ≤ dk.size by omega) p1)
      have hbN : N ≤ Q * 20 + 20 := by omega
      have HNX := Lib.hid hnx
      have HPX := Lib.hid hpx
      have HBN := Lib.hid hbN
      have HSZ := Lib.hid hN
      clear hnx hpx hp hbl hN hz ha hb hba hGk hQ hbN
      go_wp2_with fail
      refine (hin _ hk).mono ?_
      rintro z w2 ⟨rfl, d', p1, s1, hk2⟩
      have hB20 : Blo (keyE k p) 20 N N d' := fun x hx => HNX.out d' p1 s1 x (Nat.lt_of_lt_of_le hx HBN.out)
      have hP20 := HPX.out d' p1
      clear s1 p1 HNX HPX HBN hin hk
      go_wp2_with fail
      go_loopw [6] (fun v6 wr => ∃ (s : Nat) (dk : Array El), 0 < s ∧ v6 = .int .i64 (s : Int) ∧ s ≤ 200000 ∧ PermIn 0 N d dk ∧ Blo (keyE k p) s N N dk ∧ Sk w0 g dk wr) (fun v _ => N - (intOf v).toNat)
      case atStart => exact ⟨20, d', by omega, rfl, by omega, hP20, hB20, hk2⟩
      case round =>
        clear hP20 hB20 hk2
        obtain ⟨s, dk, hs0, rfl, hsb, hp, hbl, hk⟩ := hrel
        by_cases hlt : s < N
        · have hlt2 := lt_int hlt
          obtain ⟨t, ht⟩ : ∃ t, 2 * s = t := ⟨_, rfl⟩
          have e1 : 2 * (s : Int) = (t : Int) := by omega
          have e1' : (s : Int) * 2 = (t : Int) := by omega
          have tb : t ≤ 200000 := by omega
          have t0 : 0 < t := by omega
          have st : s < t := by omega
          have HM := Lib.hid (Mix.start hbl)
          have HP := Lib.hid hp
          have HT := Lib.hid ht
          clear hbl hp ht
          go_wp2_with fail
          go_loopw [7, 8] (fun v7 v8 wr => ∃ (Q a b : Nat) (dj : Array El), a = Q * (2 * s) ∧ b = a + t ∧ a ≤ N ∧ v7 = .int .i64 (a : Int) ∧ v8 = .int .i64 (b : Int) ∧ PermIn 0 N d dj ∧ Mix (keyE k p) s N a dj ∧ Sk w0 g dj wr) (fun _ v _ => N + t - (intOf v).toNat)
          case atStart => exact ⟨0, 0, t, dk, by omega, by omega, Nat.zero_le _, rfl, rfl, HP.out, HM.out, hk⟩
          case round =>
            clear hk HM HP
            obtain ⟨Q, a, b, dj, ha, hb, haN, rfl, rfl, hp, hm, hk⟩ := hrel
            have hz : dj.size = N := hp.1.trans HSZ.out
            have hGj := all_perm hp (Nat.le_of_eq HSZ.out.symm) hG HSZ.out
            have htt := HT.out
            obtain ⟨m, hmm⟩ : ∃ m, a + s = m := ⟨_, rfl⟩
            have e2 : (a : Int) + (s : Int) = (m : Int) := by omega
            have mb : m ≤ 400000 := by omega
            have am : a < m := by omega
            by_cases hbN : b ≤ N
            · have hbN2 : (b : Int) ≤ (N : Int) := by omega
              have mb2 : m < b := by omega
              have hpa := hm.parts ha hs0 (by omega)
              rw [hmm, show min (a + 2 * s) N = b by omega] at hpa
              have hre := fun w h => symMerge_c k p wb w0 g q cap N C (by omega) (b - a) dj a m b (Nat.le_refl _) am mb2 hbN hz hGj hpa.1 hpa.2 w h
              have hnx := fun d' (p1 : PermIn a b dj d') (s1 : Srt (keyE k p) a b d') => hm.step ha hs0 (show b = min (a + 2 * s) N by omega) p1 s1
              have hpx := fun d' (p1 : PermIn a b dj d') => perm_trans hp (perm_up (Nat.zero_le a) hbN (Nat.le_of_eq hz.symm) p1)
              obtain ⟨c, hc⟩ : ∃ c, b + t = c := ⟨_, rfl⟩
              have e3 : (b : Int) + (t : Int) = (c : Int) := by omega
              have cb : c ≤ 400000 := by omega
              have bc : b < c := by omega
              have bb : a + 2 * s = b := by omega
              have hQ : b = (Q + 1) * (2 * s) := by rw [Nat.succ_mul, ← ha]; omega
              rw [bb] at hnx
              have HNX := Lib.hid hnx
              have HPX := Lib.hid hpx
              have HC := Lib.hid hc
              have HQ := Lib.hid hQ
              clear hnx hpx hpa hp hm hz hGj htt hmm hc bb hQ ha hb
              unfold SymC at hre
              go_wp2_with fail
              refine (hre _ hk).mono ?_
              rintro z w2 ⟨rfl, d', p1, s1, hk2⟩
              have HNN := Lib.hid (HNX.out d' p1 s1)
              have HPP := Lib.hid (HPX.out d' p1)
              clear s1 p1
              go_wp2_with fail
              go_roundw
              case rel => exact ⟨Q + 1, b, c, d', HQ.out, HC.out.symm, hbN, rfl, rfl, HPP.out, HNN.out, hk2⟩
              case measure => simp [intOf]; omega
            · have hbN2 : ¬ (b : Int) ≤ (N : Int) := by omega
              by_cases hmN : m < N
              · have hmN2 := lt_int hmN
                have hpa := hm.parts ha hs0 (by omega)
                rw [hmm, show min (a + 2 * s) N = N by omega] at hpa
                have hre := fun w h => symMerge_c k p wb w0 g q cap N C (by omega) (N - a) dj a m N (Nat.le_refl _) am hmN (Nat.le_refl _) hz hGj hpa.1 hpa.2 w h
                have hnx := fun d' (p1 : PermIn a N dj d') (s1 : Srt (keyE k p) a N d') => (hm.step ha hs0 (show N = min (a + 2 * s) N by omega) p1 s1).full (show N ≤ a + 2 * s by omega)
                have hpx := fun d' (p1 : PermIn a N dj d') => perm_trans hp (perm_up (Nat.zero_le a) (Nat.le_refl _) (Nat.le_of_eq hz.symm) p1)
                rw [htt] at hnx
                have HNX := Lib.hid hnx
                have HPX := Lib.hid hpx
                clear hnx hpx hpa hp hm hz hGj htt hmm ha hb
                unfold SymC at hre
                go_wp2_with fail
                refine (hre _ hk).mono ?_
                rintro z w2 ⟨rfl, d', p1, s1, hk2⟩
                have HNN := Lib.hid (HNX.out d' p1 s1)
                have HPP := Lib.hid (HPX.out d' p1)
                clear s1 p1
                go_wp2_with fail
                go_roundw
                case rel => exact ⟨t, d', t0, rfl, tb, HPP.out, HNN.out, hk2⟩
                case measure => simp [intOf]; omega
              · have hmN2 := nlt_int hmN
                have hnx := hm.last ha hs0 (show N ≤ a + s by omega)
                rw [htt] at hnx
                have HNX := Lib.hid hnx
                have HPP := Lib.hid hp
                clear hnx hp hm hz hGj htt hmm ha hb
                go_wp2_with fail
                go_roundw
                case rel => exact ⟨t, dj, t0, rfl, tb, HPP.out, HNX.out, hk⟩
                case measure => simp [intOf]; omega
        · have hlt2 := nlt_int hlt
          have hall := Blo.all hbl (Nat.le_of_not_lt hlt)
          have HALL := Lib.hid hall
          have HPP := Lib.hid hp
          clear hall hbl hp
          go_wp2_with fail
          go_end0
          exact ⟨rfl, dk, HPP.out, HALL.out, hk⟩
set_option maxHeartbeats 1000000 in
set_option maxRecDepth 100000 in
theorem sortStable_c (k p : Int) (wb w0 : World) (g q cap N : Nat) (C : Cmp k p wb w0 g q) (d : Array El) (hN : d.size = N) (hN2 : N ≤ 100000) (hG : ∀ i, i < N → Good k p w0 g d[i]!) (w : World) (h : Sk w0 g d w) :
    Calls Tryz.prog 18 #[.slice (some ⟨g, 0, none⟩) N cap, .func (.func 16) #[] #[.pointer (some ⟨q, 0, none⟩)]] w fun e w' => e = .returned (.tuple #[]) ∧ ∃ d', PermIn 0 N d d' ∧ Srt (keyE k p) 0 N d' ∧ Sk w0 g d' w' := by
  have hst := stable_c k p wb w0 g q cap N C d hN hN2 hG w h
  clear hN h
  go_enter Tryz.func18, Tryz.ntmps18
  go_wp2_with fail
  refine hst.mono ?_
  rintro z w2 ⟨rfl, d', p1, s1, hk2⟩
  have H := Lib.hid (And.intro p1 s1)
  clear p1 s1
  go_wp2_with fail
  go_end0
  exact ⟨rfl, d', H.out.1, H.out.2, hk2⟩
set_option maxHeartbeats 1000000 in
set_option maxRecDepth 100000 in
theorem insertion_none (cap : Nat) (A : Option Addr) (fv : Value) (w : World) :
    Calls Tryz.prog 53 #[.slice A 0 cap, .int .i64 0, .int .i64 0, fv] w fun e w' => e = .returned (.tuple #[]) ∧ w = w' := by
  go_enter Tryz.func53, Tryz.ntmps53
  go_wp2_with fail
  go_loopw [8] (fun v8 wr => v8 = .int .i64 1 ∧ w = wr) (fun v _ => 0)
  case atStart => exact ⟨rfl, rfl⟩
  case round =>
    obtain ⟨rfl, rfl⟩ := hrel
    go_wp2_with fail
    go_end0
    exact ⟨rfl, rfl⟩
set_option maxHeartbeats 1000000 in
set_option maxRecDepth 100000 in
theorem stable_none (cap : Nat) (A : Option Addr) (fv : Value) (w : World) :
    Calls Tryz.prog 32 #[.slice A 0 cap, .int .i64 0, fv] w fun e w' => e = .returned (.tuple #[]) ∧ w = w' := by
  have hin := fun w => insertion_none cap A fv w
  go_enter Tryz.func32, Tryz.ntmps32
  go_wp2_with fail
  go_loopw [7, 8] (fun v7 v8 wr => v7 = .int .i64 0 ∧ v8 = .int .i64 20 ∧ w = wr) (fun v _ _ => 0)
  case atStart => exact ⟨rfl, rfl, rfl⟩
  case round =>
    obtain ⟨rfl, rfl, rfl⟩ := hrel
    go_wp2_with fail
    refine (hin _).mono ?_
    rintro z w2 ⟨rfl, rfl⟩
    go_wp2_with fail
    go_loopw [6] (fun v6 wr => v6 = .int .i64 20 ∧ w = wr) (fun v _ => 0)
    case atStart => exact ⟨rfl, rfl⟩
    case round =>
      obtain ⟨rfl, rfl⟩ := hrel
      go_wp2_with fail
      go_end0
      exact ⟨rfl, rfl⟩
set_option maxHeartbeats 1000000 in
set_option maxRecDepth 100000 in
/-- The same at no element: nothing is asked. -/
theorem sortStable_none (cap : Nat) (A : Option Addr) (fv : Value) (w : World) :
    Calls Tryz.prog 18 #[.slice A 0 cap, fv] w fun e w' => e = .returned (.tuple #[]) ∧ w = w' := by
  have hst := stable_none cap A fv
  go_enter Tryz.func18, Tryz.ntmps18
  go_wp2_with fail
  refine (hst _).mono ?_
  rintro z w2 ⟨rfl, rfl⟩
  go_wp2_with fail
  go_end0
  exact ⟨rfl, rfl⟩
end Go.Proofs.YtlnfmngginihfaaGreatDoor
namespace Go.Proofs.YtlnfmngginihfaaGreatDoor
open Go.RowKit Go.Sort

def toEl (u : Fl × Value) : El := match u.2 with
  | .slice A _ c => ⟨u.1, A, c⟩
  | _ => ⟨u.1, none, 0⟩
theorem toEl_f (u : Fl × Value) : (toEl u).f = u.1 := by unfold toEl; split <;> rfl
theorem toEl_of {w : World} {base : Nat} {u : Fl × Value} (h : Own w base u.2 (cn u.1.mag)) : encE (toEl u) = [.int .i64 u.1.kind, .bool u.1.neg, .int .i64 u.1.exp, u.2] ∧ Rd w (toEl u).A (toEl u).c (cn (toEl u).f.mag) := by
  obtain ⟨A, c, e, hr⟩ := h.rd
  unfold toEl
  rw [e]
  exact ⟨rfl, hr⟩
theorem own_sk {w : World} {base : Nat} {v : Value} {fs : List Fl} (h : OwnF w base v fs) (h0 : 0 < fs.length) : ∃ (g cap : Nat) (d : Array El), v = .slice (some ⟨g, 0, none⟩) fs.length cap ∧ base ≤ g ∧ d.toList.map (·.f) = fs ∧ Sk w g d w ∧
    ∀ u ∈ d.toList, Rd w u.A u.c (cn u.f.mag) ∧ ∀ ad, u.A = some ad → ad.block ≠ g := by
  obtain ⟨us, e, ho, hu⟩ := h.own
  have hlen : us.length = fs.length := by rw [← e, List.length_map]
  rcases ho.2 with ⟨e2, hn⟩ | ⟨g, cap, cur, e2, hb, hh, hnc, hcm, hcs, htk⟩
  · omega
  · refine ⟨g, cap, (us.map toEl).toArray, e2, hb, ?_, ⟨?_, Gw.refl _ _⟩, ?_⟩
    · rw [← e]
      simp only [List.map_map]
      exact List.map_congr_left fun u _ => toEl_f u
    · intro t ht
      rw [size_flatK] at ht
      have hs : (us.map toEl).toArray.size = us.length := by simp
      have hi : t / 4 < us.length := by rw [hs] at ht; omega
      have hmem : us[t / 4] ∈ us := List.getElem_mem hi
      have hc : w.cell? ⟨g, t, none⟩ = (encE (toEl us[t / 4]))[t % 4]? := by
        rw [cell_of_row w g _ _ _ _ hh, ← Array.getElem?_toList]
        have h1 : (cur.toList.take (fs.length * 4))[t]? = cur.toList[t]? := List.getElem?_take_of_lt (by omega)
        have h2 := fl_flat us (t / 4) hi (t % 4) (Nat.mod_lt _ (by decide))
        have et : t / 4 * 4 + t % 4 = t := by omega
        rw [et] at h2
        rw [← h1, htk, h2, (toEl_of (hu _ hmem)).1]
      have hd : (us.map toEl).toArray[t / 4]! = toEl us[t / 4] := by
        rw [getElem!_pos _ _ (by rw [hs]; exact hi)]
        simp
      refine ⟨?_, ?_⟩
      · rw [Nat.zero_add, hc, get_flatK _ _ _ _ (by rw [hs]; omega), hd]
        have h4 : t % 4 < (encE (toEl us[t / 4])).length := by rw [encE_len]; exact Nat.mod_lt _ (by decide)
        rw [List.getElem?_eq_getElem h4, getElem!_pos (encE (toEl us[t / 4])) (t % 4) h4]
        rfl
      · simp [World.frozen?, hh]
    · intro u hm
      simp only [List.mem_map] at hm
      obtain ⟨x, hx, rfl⟩ := hm
      refine ⟨(toEl_of (hu x hx)).2, fun ad ha hg => ?_⟩
      rcases (hu x hx).own.2 with ⟨e3, _⟩ | ⟨g2, cap2, cur2, e3, _, hh2, _⟩
      · unfold toEl at ha
        rw [e3] at ha
        cases ha
      · unfold toEl at ha
        rw [e3] at ha
        injection ha with ha
        subst ha
        have hg' : g2 = g := hg
        subst hg'
        rw [hh] at hh2
        injection hh2 with hh2
        injection hh2 with _ ht
        exact absurd ht (by decide)
def El.fa (u : El) : FA := ⟨u.f.kind, u.f.neg, u.f.exp, u.A, u.c, cn u.f.mag⟩
/-- The row, read, behind the sort. -/
theorem sk_frd {w0 w : World} {g cap : Nat} {d : Array El} (h : Sk w0 g d w) (hc : d.size ≤ cap) (hl : d.size ≤ 1000000) (hr : ∀ u ∈ d.toList, Rd w0 u.A u.c (cn u.f.mag) ∧ ∀ ad, u.A = some ad → ad.block ≠ g) :
    FRd w (some ⟨g, 0, none⟩) cap (d.toList.map El.fa) := by
  refine ⟨by simpa using hc, by simpa using hl, fun i hi => ?_⟩
  have hi' : i < d.size := by simpa using hi
  obtain ⟨c0, c1, c2, c3⟩ := h.cells i hi'
  have e : (d.toList.map El.fa)[i] = (d[i]!).fa := by
    rw [getElem!_pos d i hi']
    simp
  have hm : d[i]! ∈ d.toList := by
    rw [getElem!_pos d i hi']
    simp
  obtain ⟨q1, q2⟩ := hr _ hm
  refine ⟨_, rfl, ?_, ?_, ?_, ?_, ?_⟩
  · rw [add_zero', e]; exact c0
  · rw [add_zero', e]; exact c1
  · rw [add_zero', e]; exact c2
  · rw [add_zero', e]; exact c3
  · rw [e]; exact q1.far h.gw q2
end Go.Proofs.YtlnfmngginihfaaGreatDoor
