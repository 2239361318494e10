/- FormatLarge: the walk. -/
import Derived.Test.YtplnaajoeoiieaaDoorT5
import Derived.Test.YtplnaajoeoiieaaDoorS8
import Derived.Test.YtplnaajoeoiieaaDoorS9
import Derived.Test.YtplnaajoeoiieaaDoorL5
import Derived.Test.YtplnaajoeoiieaaDoorFA
set_option linter.unusedVariables false
set_option linter.unusedSimpArgs false
namespace Go.Proofs.YtplnaajoeoiieaaDoor
open Go.RowKit

theorem flt_size {k p : Int} {a : FA} (h : 4096 < a.xs.length) : fltE k p a = 2 := by unfold fltE; rw [FlsS_one, if_pos h]
theorem cn_zero : cn 0 = [] := digs_zero B
/-- A call's slice of no words. -/
theorem Own.slice0 {w : World} {b : Nat} {v : Value} (h : Own w b v (cn 0)) : ∃ A c, v = .slice A 0 c := by
  rw [cn_zero] at h
  obtain ⟨A, c, rfl, -⟩ := h.rd
  exact ⟨A, c, rfl⟩
set_option maxHeartbeats 4000000 in
set_option maxRecDepth 100000 in
theorem formatLarge_c (k p : Int) (a : FA) (w : World) (hT : Tab w) (hM : MapT w) (h : Rd w a.A a.c a.xs) :
    Calls Tryd.prog 16 #[.agg #[.int .i64 k, .int .i64 p], a.v] w fun e w' => e = .returned (.bool true) ∧ Ext w w' := by
  obtain ⟨hF, hX, hS, hE⟩ := three_boxes w k p a h _ rfl
  have hsh := short_c _ _ [a] _ hS
  have hall : [a].all (fun b => decide (b.xs.length ≤ 40)) = decide (a.xs.length ≤ 40) := by simp
  rw [hall] at hsh
  clear hall hS
  have HF := Lib.hid hF
  have HX := Lib.hid hX
  have HE := Lib.hid hE
  clear hF hX hE
  by_cases hs : a.xs.length ≤ 40
  · rw [show decide (a.xs.length ≤ 40) = true by simpa using hs] at hsh
    obtain ⟨kd, neg, e, A, c, xs⟩ := a
    simp only at hsh HX HE HF h hs
    have hlg := fun w h => long_c kd e neg A c xs w h hs
    obtain ⟨P, hP⟩ : ∃ P, padW xs xs.length = P := ⟨_, rfl⟩
    rw [hP] at hlg
    have hpl : P.length = 4097 := by rw [← hP]; exact padW_len (Nat.le_refl _) (by omega)
    have hpv : val P = val xs := by rw [← hP]; exact padW_val xs
    have hcn : ∀ g w, Tab w → Rd w (some ⟨g, 0, none⟩) 4097 P → Calls Tryd.prog 32 #[flV kd neg e (.slice (some ⟨g, 0, none⟩) 4097 4097)] w (FErr w 2 ⟨0, false, 0, 0⟩) := fun g w hT h1 => by
      have := ccanon_c kd e neg (some ⟨g, 0, none⟩) 4097 P w hT h1 (by omega)
      rwa [hpl, show capE ⟨kd, neg, e, some ⟨g, 0, none⟩, 4097, P⟩ = 2 from if_pos (by simp only; omega), show capF ⟨kd, neg, e, some ⟨g, 0, none⟩, 4097, P⟩ = ⟨0, false, 0, 0⟩ from if_pos (by simp only; omega)] at this
    have hvl : ∀ g w, Tab w → Rd w (some ⟨g, 0, none⟩) 4097 P → Calls Tryd.prog 49 #[flV kd neg e (.slice (some ⟨g, 0, none⟩) 4097 4097)] w (RatR w 2 false 0 0) := fun g w hT h1 => by
      have e1 : capE ⟨kd, neg, e, some ⟨g, 0, none⟩, 4097, P⟩ = 2 := if_pos (by simp only; omega)
      have := value_err ⟨kd, neg, e, some ⟨g, 0, none⟩, 4097, P⟩ w hT h1 (by simp only; omega) (by rw [e1]; decide) (if_pos (by simp only; omega))
      rw [e1] at this
      simp only [FA.v, hpl] at this
      exact this
    have hfe : ∀ g, fltE k p ⟨kd, neg, e, some ⟨g, 0, none⟩, 4097, P⟩ = 2 := fun g => flt_size (by simp only; omega)
    have hcl : ∀ g w, Tab w → Rd w (some ⟨g, 0, none⟩) 4097 P → Calls Tryd.prog 44 #[.agg #[.int .i64 k, .int .i64 p], flV kd neg e (.slice (some ⟨g, 0, none⟩) 4097 4097)] w fun z w' => z = .returned (.tuple #[.int .i64 0, .int .i64 2]) ∧ Ext w w' := fun g w hT h1 => by
      have := classify_c k p ⟨kd, neg, e, some ⟨g, 0, none⟩, 4097, P⟩ w hT h1
      rw [hfe, show clsS k p ⟨kd, neg, e, some ⟨g, 0, none⟩, 4097, P⟩ = 0 from if_neg (by rw [hfe]; decide)] at this
      simp only [FA.v, hpl] at this
      exact this
    have hho : ∀ g w, Tab w → Rd w (some ⟨g, 0, none⟩) 4097 P → Calls Tryd.prog 45 #[.agg #[.int .i64 k, .int .i64 p], flV kd neg e (.slice (some ⟨g, 0, none⟩) 4097 4097)] w fun z w' => z = .returned (.int .i64 2) ∧ Ext w w' := fun g w hT h1 => by
      have := hold_c k p ⟨kd, neg, e, some ⟨g, 0, none⟩, 4097, P⟩ w hT h1
      rw [hfe] at this
      simp only [FA.v, hpl] at this
      exact this
    have hen : ∀ g w, Tab w → Rd w (some ⟨g, 0, none⟩) 4097 P → Calls Tryd.prog 22 #[.agg #[.int .i64 k, .int .i64 p], flV kd neg e (.slice (some ⟨g, 0, none⟩) 4097 4097)] w (NatR w 2 0) := fun g w hT h1 => by
      have := encode_c k p ⟨kd, neg, e, some ⟨g, 0, none⟩, 4097, P⟩ w hT h1
      rw [hfe, encN_bad (by rw [hfe]; decide)] at this
      simp only [FA.v, hpl] at this
      exact this
    have hdc : ∀ g w, Tab w → Rd w (some ⟨g, 0, none⟩) 4097 P → Calls Tryd.prog 27 #[.agg #[.int .i64 k, .int .i64 p], .slice (some ⟨g, 0, none⟩) 4097 4097] w (FErr w 2 ⟨0, false, 0, 0⟩) := fun g w hT h1 => by
      have := decode_size k p (some ⟨g, 0, none⟩) 4097 P w (by omega)
      rwa [hpl] at this
    have hof := fun g w => of_size false (some ⟨g, 0, none⟩) none 4097 4097 0 0 w (by omega)
    have hsm : ∀ g w, Tab w → Rd w A c xs → Rd w (some ⟨g, 0, none⟩) 4097 P → Calls Tryd.prog 47 #[flV kd neg e (.slice A xs.length c), flV kd neg e (.slice (some ⟨g, 0, none⟩) 4097 4097)] w fun z w' => z = .returned (.bool (canon kd neg e (val xs)).isSome) ∧ Ext w w' := fun g w hT h0 h1 => by
      have := fsame_c ⟨kd, neg, e, A, c, xs⟩ ⟨kd, neg, e, some ⟨g, 0, none⟩, 4097, P⟩ w hT h0 h1 (by simp only; omega) (by simp only; omega)
      rw [show FA.can ⟨kd, neg, e, some ⟨g, 0, none⟩, 4097, P⟩ = FA.can ⟨kd, neg, e, A, c, xs⟩ from (by unfold FA.can; simp only; rw [hpv]), sameO_self] at this
      simp only [FA.v, hpl] at this
      exact this
    have hth := fun w => their_c kd e neg A xs.length c w
    have hgd := fun w h => rgood_c kd e neg A c xs w h (by omega)
    have hnn := fun A2 c2 w => none_c 0 0 false A2 0 c2 w
    rw [show decide ((0 : Int) = 0 ∧ false = false ∧ (0 : Int) = 0 ∧ (0 : Nat) = 0) = true by decide] at hnn
    have hnq := fun A1 A2 c1 c2 w => norat_c false A1 A2 0 c1 0 c2 w
    rw [show decide (false = false ∧ (0 : Nat) = 0 ∧ (0 : Nat) = 0) = true by decide] at hnq
    generalize (canon kd neg e (val xs)).isSome = G at *
    have HPL := Lib.hid hpl
    clear hpl hpv hP hfe
    go_enter Tryd.func16, Tryd.ntmps16
    go_wp2_with fail
    refine hsh.mono ?_
    rintro z w1 ⟨rfl, rfl⟩
    have hF := HF.out
    have hX := HX.out
    have hE := HE.out
    clear HF HX HE hsh hs
    generalize (((w.alloc (.cells #[.int .i64 k, .int .i64 p] 24)).alloc (.cells #[.int .i64 kd, .bool neg, .int .i64 e, .slice A xs.length c] 37)).alloc (.cells #[.int .i64 kd, .bool neg, .int .i64 e, .slice A xs.length c] 37)) = W at *
    obtain ⟨x0, x1, x2, x3, -⟩ := hX.facts
    go_wp2_with fail
    refine (hlg _ (h.ext hE)).mono ?_
    rintro z w2 ⟨g, rfl, hbk, hb2⟩
    have hY := Bx.new w2 (.int .i64 kd) (.bool neg) (.int .i64 e) (.slice (some ⟨g, 0, none⟩) 4097 4097)
    have hA3 := (Ext.refl w2).al (.cells #[.int .i64 kd, .bool neg, .int .i64 e, .slice (some ⟨g, 0, none⟩) 4097 4097] 37)
    have hE3 := (hE.tr hb2).tr hA3
    have hP3 : Rd _ (some ⟨g, 0, none⟩) 4097 P := (hbk.ext hA3).rd (by have := HPL.out; omega) (by have := HPL.out; omega)
    have hF3 := (hF.ext hb2).ext hA3
    have hX3 := (hX.ext hb2).ext hA3
    clear x0 x1 x2 x3 hF hX hE hbk hlg
    go_wp2_with fail
    refine (hcn g _ (hT.ext hE3) hP3).mono ?_
    rintro z w4 ⟨u, rfl, ⟨v, rfl, ho4⟩, hb4⟩
    obtain ⟨A4, c4, rfl⟩ := ho4.slice0
    have hC := Bx.new w4 (.int .i64 0) (.bool false) (.int .i64 0) (.slice A4 0 c4)
    have hA5 := (Ext.refl w4).al (.cells #[.int .i64 0, .bool false, .int .i64 0, .slice A4 0 c4] 37)
    have hE5 := (hE3.tr hb4).tr hA5
    have hP5 := (hP3.ext hb4).ext hA5
    have hF4 := hF3.ext hb4
    have hY4 := hY.ext hb4
    have hF5 := hF4.ext hA5
    have hY5 := hY4.ext hA5
    have hX5 := (hX3.ext hb4).ext hA5
    have hlf := hF4.lt
    have hly := hY4.lt
    obtain ⟨f0, f1⟩ := hF4.facts
    obtain ⟨y0, y1, y2, y3, -⟩ := hY4.facts
    clear hcn hF3 hY hX3 hF4 hY4
    go_wp2_with fail
    refine (hcl g _ (hT.ext hE5) hP5).mono ?_
    rintro z w6 ⟨rfl, hb6⟩
    clear f0 f1 y0 y1 y2 y3 hlf hly hcl
    have hY6 := hY5.ext hb6
    obtain ⟨y0, y1, y2, y3, -⟩ := hY6.facts
    have hE6 := hE5.tr hb6
    have hP6 := hP5.ext hb6
    go_wp2_with fail
    refine (hvl g _ (hT.ext hE6) hP6).mono ?_
    rintro z w7 ⟨v1, v2, rfl, ho7, ho7', hb7⟩
    obtain ⟨A7, c7, rfl⟩ := ho7.slice0
    obtain ⟨A8, c8, rfl⟩ := ho7'.slice0
    have hQ := Bq.new w7 (.bool false) (.slice A7 0 c7) (.slice A8 0 c8)
    have hA8 := (Ext.refl w7).al (.cells #[.bool false, .slice A7 0 c7, .slice A8 0 c8] 79)
    have hE8 := (hE6.tr hb7).tr hA8
    have hP8 := (hP6.ext hb7).ext hA8
    have hF7 := (hF5.ext hb6).ext hb7
    have hY7 := hY6.ext hb7
    have hF8 := hF7.ext hA8
    have hY8 := hY7.ext hA8
    have hX8 := ((hX5.ext hb6).ext hb7).ext hA8
    have hC8 := ((hC.ext hb6).ext hb7).ext hA8
    clear y0 y1 y2 y3 hvl
    have hlf := hF7.lt
    have hly := hY7.lt
    obtain ⟨f0, f1⟩ := hF7.facts
    obtain ⟨y0, y1, y2, y3, -⟩ := hY7.facts
    clear hF5 hY5 hX5 hC hY6 hF7 hY7
    go_wp2_with fail
    refine (hen g _ (hT.ext hE8) hP8).mono ?_
    rintro z w9 ⟨v, rfl, ho9, hb9⟩
    obtain ⟨A9, c9, rfl⟩ := ho9.slice0
    have hE9 := hE8.tr hb9
    have hP9 := hP8.ext hb9
    have hF9 := hF8.ext hb9
    have hY9 := hY8.ext hb9
    have hX9 := hX8.ext hb9
    have hC9 := hC8.ext hb9
    have hQ9 := hQ.ext hb9
    clear f0 f1 y0 y1 y2 y3 hlf hly hen hF8 hY8 hX8 hC8 hQ
    obtain ⟨f0, f1⟩ := hF9.facts
    obtain ⟨y0, y1, y2, y3, -⟩ := hY9.facts
    go_wp2_with fail
    refine (hdc g _ (hT.ext hE9) hP9).mono ?_
    rintro z w10 ⟨u, rfl, ⟨v, rfl, ho10⟩, hb10⟩
    obtain ⟨A10, c10, rfl⟩ := ho10.slice0
    have hZ := Bx.new w10 (.int .i64 0) (.bool false) (.int .i64 0) (.slice A10 0 c10)
    have hA11 := (Ext.refl w10).al (.cells #[.int .i64 0, .bool false, .int .i64 0, .slice A10 0 c10] 37)
    have hE11 := (hE9.tr hb10).tr hA11
    have hP11 := (hP9.ext hb10).ext hA11
    have hY10 := hY9.ext hb10
    have hF11 := (hF9.ext hb10).ext hA11
    have hY11 := hY10.ext hA11
    have hX11 := (hX9.ext hb10).ext hA11
    have hC11 := (hC9.ext hb10).ext hA11
    have hQ11 := (hQ9.ext hb10).ext hA11
    clear f0 f1 y0 y1 y2 y3 hdc hF9 hY9 hX9 hC9 hQ9
    have hly := hY10.lt
    obtain ⟨y0, y1, y2, y3, -⟩ := hY10.facts
    clear hY10
    go_wp2_with fail
    refine (hof g _).mono ?_
    rintro z w12 ⟨rfl, hb12⟩
    have hO := Bx.new w12 (.int .i64 0) (.bool false) (.int .i64 0) (.slice none 0 0)
    have hA13 := (Ext.refl w12).al (.cells #[.int .i64 0, .bool false, .int .i64 0, .slice none 0 0] 37)
    have hE13 := (hE11.tr hb12).tr hA13
    have hP13 := (hP11.ext hb12).ext hA13
    have hF13 := (hF11.ext hb12).ext hA13
    have hY13 := (hY11.ext hb12).ext hA13
    have hX13 := (hX11.ext hb12).ext hA13
    have hC13 := (hC11.ext hb12).ext hA13
    have hQ13 := (hQ11.ext hb12).ext hA13
    have hZ13 := (hZ.ext hb12).ext hA13
    have hlo : w12.heap.size < (w12.alloc (.cells #[.int .i64 0, .bool false, .int .i64 0, .slice none 0 0] 37)).heap.size := hO.lt
    clear y0 y1 y2 y3 hly hof hF11 hY11 hX11 hC11 hQ11 hZ
    go_wp2_with fail
    clear hA13 hlo
    generalize w12.alloc (.cells #[.int .i64 0, .bool false, .int .i64 0, .slice none 0 0] 37) = V at *
    obtain ⟨f0, f1⟩ := hF13.facts
    obtain ⟨y0, y1, y2, y3, -⟩ := hY13.facts
    obtain ⟨x0, x1, x2, x3, -⟩ := hX13.facts
    obtain ⟨a0, a1, a2, a3, -⟩ := hC13.facts
    obtain ⟨q0, q1, q2, -⟩ := hQ13.facts
    obtain ⟨z0, z1, z2, z3, -⟩ := hZ13.facts
    obtain ⟨o0, o1, o2, o3, -⟩ := hO.facts
    replace f0 := Later.cell f0
    replace f1 := Later.cell f1
    replace y0 := Later.cell y0
    replace y1 := Later.cell y1
    replace y2 := Later.cell y2
    replace y3 := Later.cell y3
    replace x0 := Later.cell x0
    replace x1 := Later.cell x1
    replace x2 := Later.cell x2
    replace x3 := Later.cell x3
    replace a0 := Later.cell a0
    replace a1 := Later.cell a1
    replace a2 := Later.cell a2
    replace a3 := Later.cell a3
    replace q0 := Later.cell q0
    replace q1 := Later.cell q1
    replace q2 := Later.cell q2
    replace z0 := Later.cell z0
    replace z1 := Later.cell z1
    replace z2 := Later.cell z2
    replace z3 := Later.cell z3
    replace o0 := Later.cell o0
    replace o1 := Later.cell o1
    replace o2 := Later.cell o2
    replace o3 := Later.cell o3
    refine wp_region_later (by kernel_rfl) (by kernel_rfl) ?_
    simp only [List.append]
    repeat (go_big_quiet_step (first
      | (go_at_call 45; (with_reducible refine Calls.later (hho g _ (hT.ext (hE13.tr (Later.h _))) (hP13.ext (Later.h _)))))
      | (go_at_call 29; (with_reducible refine Calls.later (hnn _ _ _)))
      | (go_at_call 51; (with_reducible refine Calls.later (hnq _ _ _ _ _)))
      | (go_at_call 47; (with_reducible refine Calls.later (hsm g _ (hT.ext (hE13.tr (Later.h _))) (h.ext (hE13.tr (Later.h _))) (hP13.ext (Later.h _)))))
      | (go_at_call 24; (with_reducible refine Calls.later (hth _)))
      | (go_at_call 33; (with_reducible refine Calls.later (hgd _ (h.ext (hE13.tr (Later.h _))))))
      | (go_at_call 17; (with_reducible refine Calls.later (awake_c _ (hT.ext (hE13.tr (Later.h _))) (hM.ext (hE13.tr (Later.h _))))))))
    refine wpQuiet_nil ?_
    intro _ hw'
    obtain ⟨⟨wq, hq⟩, rfl⟩ := hw'
    go_wp2
    go_ret
    exact ⟨rfl, hE13.tr hq⟩
  · rw [show decide (a.xs.length ≤ 40) = false by simpa using hs] at hsh
    go_enter Tryd.func16, Tryd.ntmps16
    go_wp2_with (first
      | (go_at_call 21; refine hsh.mono ?_; rintro z w1 ⟨rfl, rfl⟩)
      | (go_at_call 17; refine (awake_c _ (hT.ext HE.out) (hM.ext HE.out)).mono ?_; rintro z w2 ⟨rfl, hb⟩))
    go_ret
    exact ⟨rfl, HE.out.tr hb⟩
end Go.Proofs.YtplnaajoeoiieaaDoor
