/- package format: Holds, Classify, Same; the reference's Same. -/
import Derived.Test.YtplnaajoeoiieaaDoorS5
import Derived.Test.YtplnaajoeoiieaaDoorF7
import Derived.Test.YtplnaajoeoiieaaDoorW3
set_option linter.unusedVariables false
set_option linter.unusedSimpArgs false
namespace Go.Proofs.YtplnaajoeoiieaaDoor
open Go.RowKit
attribute [local go_sem ↓] Go.wp_at_zero Go.wp_at_succ

set_option maxHeartbeats 2000000 in
set_option maxRecDepth 100000 in
theorem hold_c (k p : Int) (a : FA) (w : World) (hT : Tab w) (h : Rd w a.A a.c a.xs) :
    Calls Tryd.prog 45 #[.agg #[.int .i64 k, .int .i64 p], a.v] w fun z w' => z = .returned (.int .i64 (fltE k p a)) ∧ Ext w w' := by
  obtain ⟨hE, -, -, hfl⟩ := boxes3 w k p a hT h _ rfl
  unfold fltE
  obtain ⟨r, hr⟩ : ∃ r, FlsS k p [a] = r := ⟨_, rfl⟩
  rw [hr] at hfl ⊢
  obtain ⟨r1, r2⟩ := r
  clear hr
  simp only at hfl ⊢
  obtain ⟨kd, neg, e, A, c, xs⟩ := a
  go_enter Tryd.func45, Tryd.ntmps45
  go_wp2_with fail
  refine hfl.mono ?_
  rintro z w1 ⟨v, rfl, -, hb1⟩
  go_wp2
  go_ret
  exact ⟨rfl, hE.tr hb1⟩
/-- The class that Classify hands back. -/
def clsS (k p : Int) (a : FA) : Int := if fltE k p a = 0 then (match a.can with | some f => clsF k f | none => 0) else 0
set_option maxHeartbeats 2000000 in
set_option maxRecDepth 100000 in
theorem classify_c (k p : Int) (a : FA) (w : World) (hT : Tab w) (h : Rd w a.A a.c a.xs) :
    Calls Tryd.prog 44 #[.agg #[.int .i64 k, .int .i64 p], a.v] w fun z w' => z = .returned (.tuple #[.int .i64 (clsS k p a), .int .i64 (fltE k p a)]) ∧ Ext w w' := by
  obtain ⟨hE, hF, hX, hfl⟩ := boxes3 w k p a hT h _ rfl
  by_cases h0 : fltE k p a = 0
  · obtain ⟨hR, hl, f, hcan, hin, hfls⟩ := FlsS_ok h0
    have hcs : clsS k p a = clsF k f := by unfold clsS; rw [if_pos h0, hcan]
    rw [h0, hcs]
    rw [hfls] at hfl
    have hok := canon_ok hcan
    obtain ⟨hbl, hcl⟩ := canon_fin_bl hcan h.w64 hl
    have hrng := fun w => range_yes k p w hR
    have hkk := hok.kind
    have hlo := hok.lo
    have hhi := hok.hi
    have hgr := gr_bd hR.1 hR.2.1
    have hleb : -1000000 ≤ le k ∧ le k ≤ 1000000 := by unfold le; omega
    have hcf : clsF k f = if f.kind = 0 then 0 else if f.kind = 2 then 3 else if f.kind = 3 then 4 else if f.exp + bl f.mag - 1 < le k then 1 else 2 := rfl
    have hlen := fun A1 c1 w hr => len_c A1 c1 (cn f.mag) w hr (by omega)
    rw [val_cn] at hlen
    have HCF := Lib.hid hcf
    generalize clsF k f = cf at *
    clear hcan hin hR hcs hcf hfls h0 hX
    obtain ⟨fk, fn, fe, fm⟩ := f
    simp only at hkk hlo hhi hbl hcl hlen
    have hw1 : IntKind.i64.wrap (fe + (bl fm : Int)) = fe + bl fm := by rw [IntKind.wrap_i64]; omega
    have hw2 : IntKind.i64.wrap (fe + (bl fm : Int) - 1) = fe + bl fm - 1 := by rw [IntKind.wrap_i64]; omega
    have HC := Lib.hid (show cf = if fk = 0 then 0 else if fk = 2 then 3 else if fk = 3 then 4 else if fe + (bl fm : Int) - 1 < le k then 1 else 2 from HCF.out)
    clear HCF
    generalize bl fm = l at *
    generalize gr k = G at *
    generalize le k = L at *
    obtain ⟨kd, neg, e, A, c, xs⟩ := a
    go_enter Tryd.func44, Tryd.ntmps44
    go_wp2_with fail
    refine hfl.mono ?_
    rintro z w1 ⟨v, rfl, hof, hb1⟩
    obtain ⟨g, A1, c1, c2, rfl, x0, x1, x2, x3, hr1, ho1⟩ := hof.one
    obtain ⟨f0, f1⟩ := (hF.ext hb1).facts
    simp only at x0 x1 x2 x3 hr1 ho1
    have hE1 := hE.tr hb1
    go_wp2_with fail
    refine (hrng _).mono ?_
    rintro z w2 ⟨rfl, hb2⟩
    replace x0 := hb2.cell x0
    replace x1 := hb2.cell x1
    replace x2 := hb2.cell x2
    replace x3 := hb2.cell x3
    have hE2 := hE1.tr hb2
    have hr2 := hr1.ext hb2
    clear f0 f1
    have hY := Bx.new w2 (.int .i64 fk) (.bool fn) (.int .i64 fe) (.slice A1 (cn fm).length c1)
    have hA3 := (Ext.refl w2).al (.cells #[.int .i64 fk, .bool fn, .int .i64 fe, .slice A1 (cn fm).length c1] 37)
    have hE3 := hE2.tr hA3
    rcases (show fk = 0 ∨ fk = 1 ∨ fk = 2 ∨ fk = 3 by omega) with rfl | rfl | rfl | rfl
    · have e := HC.out
      rw [if_pos rfl] at e
      subst e
      go_wp2
      go_ret2
      exact ⟨rfl, hE3⟩
    · have HY := Lib.hid hY
      have HE3 := Lib.hid hE3
      clear hY hE3
      go_wp2_with fail
      have hY := HY.out
      have hE3 := HE3.out
      clear HY HE3
      have hr3 := hr2.ext hA3
      generalize w2.alloc (.cells #[.int .i64 1, .bool fn, .int .i64 fe, .slice A1 (cn fm).length c1] 37) = W at *
      obtain ⟨y0, y1, y2, y3, -⟩ := hY.facts
      have q2 := Later.cell y2
      have q3 := Later.cell y3
      obtain ⟨b, hb⟩ : ∃ b, decide (fe + (l : Int) - 1 < L) = b := ⟨_, rfl⟩
      have hcv : cf = if b = true then 1 else 2 := by
        rw [HC.out, if_neg (by omega), if_neg (by omega), if_neg (by omega), ← hb]
        by_cases hh : fe + (l : Int) - 1 < L <;> simp [hh]
      clear HC
      cases b
      all_goals
        simp only [Bool.false_eq_true, if_false, if_true] at hcv
        subst hcv
        refine wp_region_later (by kernel_rfl) (by kernel_rfl) ?_
        repeat (go_big_quiet_step (first
          | (go_at_call 62; refine Calls.later ((hlen A1 c1 _ (hr3.ext (Later.h _))).mono fun z w' hz => ⟨hz.1, hz.2.elim fun n hn => by rw [hn]; exact (Ext.refl _).drewN n⟩))))
        refine wpQuiet_nil ?_
        intro _ hw'
        obtain ⟨⟨wq, hq⟩, rfl⟩ := hw'
        go_wp2
        go_ret2
        exact ⟨rfl, hE3.tr hq⟩
    · have e := HC.out
      rw [if_neg (by omega), if_pos rfl] at e
      subst e
      go_wp2
      go_ret2
      exact ⟨rfl, hE3⟩
    · have e := HC.out
      rw [if_neg (by omega), if_neg (by omega), if_pos rfl] at e
      subst e
      go_wp2
      go_ret2
      exact ⟨rfl, hE3⟩
  · have hcs : clsS k p a = 0 := by unfold clsS; rw [if_neg h0]
    rw [hcs]
    rw [FlsS_err h0] at hfl
    have hEb : (fltE k p a != 0) = true := by simpa using h0
    clear h0 hcs
    generalize fltE k p a = ec at *
    obtain ⟨kd, neg, e, A, c, xs⟩ := a
    go_enter Tryd.func44, Tryd.ntmps44
    go_wp2_with fail
    refine hfl.mono ?_
    rintro z w1 ⟨v, rfl, -, hb1⟩
    go_wp2
    go_ret2
    exact ⟨rfl, hE.tr hb1⟩
end Go.Proofs.YtplnaajoeoiieaaDoor
