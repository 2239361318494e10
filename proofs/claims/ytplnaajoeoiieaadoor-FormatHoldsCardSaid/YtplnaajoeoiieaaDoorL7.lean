/- FormatHolds: the walk. -/
import Derived.Test.YtplnaajoeoiieaaDoorS8
import Derived.Test.YtplnaajoeoiieaaDoorL5
set_option linter.unusedVariables false
set_option linter.unusedSimpArgs false
namespace Go.Proofs.YtplnaajoeoiieaaDoor
open Go.RowKit

set_option maxHeartbeats 2000000 in
set_option maxRecDepth 100000 in
theorem formatHolds_c (k p : Int) (a : FA) (w : World) (hT : Tab w) (hM : MapT w) (h : Rd w a.A a.c a.xs) :
    Calls Tryd.prog 8 #[.agg #[.int .i64 k, .int .i64 p], a.v] w fun e w' => e = .returned (.bool true) ∧ Ext w w' := by
  obtain ⟨hF, hX, hS, hE⟩ := three_boxes w k p a h _ rfl
  have hsh := short_c _ _ [a] _ hS
  have hall : [a].all (fun b => decide (b.xs.length ≤ 40)) = decide (a.xs.length ≤ 40) := by simp
  rw [hall] at hsh
  clear hall hS
  have HF := Lib.hid hF
  have HX := Lib.hid hX
  have HE := Lib.hid hE
  clear hF hX hE
  by_cases hs : a.xs.length ≤ 40
  · rw [show decide (a.xs.length ≤ 40) = true by simpa using hs] at hsh
    have hcs := fun w hT h => classify_c k p a w hT h
    have hhs := fun w hT h => hold_c k p a w hT h
    have hth := fun w => their_c a.k a.e a.neg a.A a.xs.length a.c w
    have hfm := fun w => fmt_c k p w
    have hck := fun w h => rcheck_one k p a w h (by omega)
    by_cases h0 : fltE k p a = 0
    · obtain ⟨hR, hl, f, hcan, hin, -⟩ := FlsS_ok h0
      have hcl : clsS k p a = clsF k f := by unfold clsS; rw [if_pos h0, hcan]
      have hrc := fun w h => rclass_c k p hR a.k a.e a.neg a.A a.c a.xs w h (by omega) f hcan
      rw [h0, hcl] at hcs
      rw [h0] at hhs hck
      generalize clsF k f = C at *
      clear h0 hcan hin hR hl hcl
      obtain ⟨kd, neg, e, A, c, xs⟩ := a
      simp only at hsh HX HE HF hth h hs hcs hck hhs hrc
      go_enter Tryd.func8, Tryd.ntmps8
      go_wp2_with fail
      refine hsh.mono ?_
      rintro z w1 ⟨rfl, rfl⟩
      have hF := HF.out
      have hX := HX.out
      have hE := HE.out
      clear HF HX HE hsh
      generalize (((w.alloc (.cells #[.int .i64 k, .int .i64 p] 24)).alloc (.cells #[.int .i64 kd, .bool neg, .int .i64 e, .slice A xs.length c] 37)).alloc (.cells #[.int .i64 kd, .bool neg, .int .i64 e, .slice A xs.length c] 37)) = W at *
      obtain ⟨f0, f1⟩ := hF.facts
      obtain ⟨x0, x1, x2, x3, -⟩ := hX.facts
      go_wp2_with fail
      go_region_held3 (fun w' => w'.cell? ⟨w.heap.size, 0, none⟩ = some (.int .i64 k) ∧ w'.cell? ⟨w.heap.size, 1, none⟩ = some (.int .i64 p) ∧
          w'.cell? ⟨w.heap.size + 1, 0, none⟩ = some (.int .i64 kd) ∧ w'.cell? ⟨w.heap.size + 1, 1, none⟩ = some (.bool neg) ∧ w'.cell? ⟨w.heap.size + 1, 2, none⟩ = some (.int .i64 e) ∧ w'.cell? ⟨w.heap.size + 1, 3, none⟩ = some (.slice A xs.length c))
        (first | go_keep | (go_split_ands; refine ⟨?_, ?_, ?_, ?_, ?_, ?_⟩ <;> (refine Ext.cell (w := W) (by assumption) ?_; assumption)))
        (first
          | (go_at_call 20; (with_reducible refine (hfm _).mono ?_); rintro z w3 ⟨rfl, hb3⟩; have hE3 : Ext W w3 := (Ext.refl W).drew.tr hb3)
          | (go_at_call 24; (with_reducible refine (hth _).mono ?_); rintro z w4 ⟨rfl, hb4⟩; have hE4 : Ext W w4 := hE3.tr hb4)
          | (go_at_call 23; (with_reducible refine (hck _ (h.ext (hE.tr hE4))).mono ?_); rintro z w5 ⟨rfl, hb5⟩; have hE5 : Ext W w5 := hE4.tr hb5))
      have hF5 := hF.ext hE5
      have hX5 := hX.ext hE5
      have hEE := hE.tr hE5
      clear f0 f1 x0 x1 x2 x3 hF hX hE hE3 hE4 hE5 hb3 hb4 hb5 hck
      obtain ⟨f0, f1⟩ := hF5.facts
      obtain ⟨x0, x1, x2, x3, -⟩ := hX5.facts
      go_wp2_with fail
      refine (hcs _ (hT.ext hEE) (h.ext hEE)).mono ?_
      rintro z w6 ⟨rfl, hb6⟩
      have hF6 := hF5.ext hb6
      have hX6 := hX5.ext hb6
      have hE6 := hEE.tr hb6
      clear f0 f1 x0 x1 x2 x3 hF5 hX5 hEE hb6 hcs
      obtain ⟨f0, f1⟩ := hF6.facts
      obtain ⟨x0, x1, x2, x3, -⟩ := hX6.facts
      go_wp2_with fail
      refine (hhs _ (hT.ext hE6) (h.ext hE6)).mono ?_
      rintro z w7 ⟨rfl, hb7⟩
      have hF7 := hF6.ext hb7
      have hX7 := hX6.ext hb7
      have hE7 := hE6.tr hb7
      clear f0 f1 x0 x1 x2 x3 hF6 hX6 hE6 hb7 hhs
      obtain ⟨f0, f1⟩ := hF7.facts
      obtain ⟨x0, x1, x2, x3, -⟩ := hX7.facts
      go_wp2_with fail
      go_region_held3 (fun w' => w'.cell? ⟨w.heap.size, 0, none⟩ = some (.int .i64 k) ∧ w'.cell? ⟨w.heap.size, 1, none⟩ = some (.int .i64 p) ∧
          w'.cell? ⟨w.heap.size + 1, 0, none⟩ = some (.int .i64 kd) ∧ w'.cell? ⟨w.heap.size + 1, 1, none⟩ = some (.bool neg) ∧ w'.cell? ⟨w.heap.size + 1, 2, none⟩ = some (.int .i64 e) ∧ w'.cell? ⟨w.heap.size + 1, 3, none⟩ = some (.slice A xs.length c))
        (first | go_keep | (go_split_ands; refine ⟨?_, ?_, ?_, ?_, ?_, ?_⟩ <;> (refine Ext.cell (w := w7) (by assumption) ?_; assumption)))
        (first
          | (go_at_call 20; (with_reducible refine (hfm _).mono ?_); rintro z w8 ⟨rfl, hb8⟩; have hE8 : Ext w7 w8 := (Ext.refl w7).drew.tr hb8)
          | (go_at_call 24; (with_reducible refine (hth _).mono ?_); rintro z w9 ⟨rfl, hb9⟩; have hE9 : Ext w7 w9 := hE8.tr hb9)
          | (go_at_call 46; (with_reducible refine (hrc _ (h.ext (hE7.tr hE9))).mono ?_); rintro z w10 ⟨rfl, hb10⟩; have hE10 : Ext w7 w10 := hE9.tr hb10)
          | (go_at_call 17; (with_reducible refine (awake_c _ (hT.ext (hE7.tr hE10)) (hM.ext (hE7.tr hE10))).mono ?_); rintro z w11 ⟨rfl, hb11⟩; have hE11 : Ext w7 w11 := hE10.tr hb11))
      go_wp2
      go_ret
      exact ⟨rfl, hE7.tr hE11⟩
    · have hcl : clsS k p a = 0 := by unfold clsS; rw [if_neg h0]
      rw [hcl] at hcs
      generalize fltE k p a = E at *
      have hE0 : (E != 0) = true := by rw [bne_iff_ne]; exact h0
      clear h0 hcl
      obtain ⟨kd, neg, e, A, c, xs⟩ := a
      simp only at hsh HX HE HF hth h hs hcs hck hhs
      go_enter Tryd.func8, Tryd.ntmps8
      go_wp2_with fail
      refine hsh.mono ?_
      rintro z w1 ⟨rfl, rfl⟩
      have hF := HF.out
      have hX := HX.out
      have hE := HE.out
      clear HF HX HE hsh
      generalize (((w.alloc (.cells #[.int .i64 k, .int .i64 p] 24)).alloc (.cells #[.int .i64 kd, .bool neg, .int .i64 e, .slice A xs.length c] 37)).alloc (.cells #[.int .i64 kd, .bool neg, .int .i64 e, .slice A xs.length c] 37)) = W at *
      obtain ⟨f0, f1⟩ := hF.facts
      obtain ⟨x0, x1, x2, x3, -⟩ := hX.facts
      go_wp2_with fail
      go_region_held3 (fun w' => w'.cell? ⟨w.heap.size, 0, none⟩ = some (.int .i64 k) ∧ w'.cell? ⟨w.heap.size, 1, none⟩ = some (.int .i64 p) ∧
          w'.cell? ⟨w.heap.size + 1, 0, none⟩ = some (.int .i64 kd) ∧ w'.cell? ⟨w.heap.size + 1, 1, none⟩ = some (.bool neg) ∧ w'.cell? ⟨w.heap.size + 1, 2, none⟩ = some (.int .i64 e) ∧ w'.cell? ⟨w.heap.size + 1, 3, none⟩ = some (.slice A xs.length c))
        (first | go_keep | (go_split_ands; refine ⟨?_, ?_, ?_, ?_, ?_, ?_⟩ <;> (refine Ext.cell (w := W) (by assumption) ?_; assumption)))
        (first
          | (go_at_call 20; (with_reducible refine (hfm _).mono ?_); rintro z w3 ⟨rfl, hb3⟩; have hE3 : Ext W w3 := (Ext.refl W).drew.tr hb3)
          | (go_at_call 24; (with_reducible refine (hth _).mono ?_); rintro z w4 ⟨rfl, hb4⟩; have hE4 : Ext W w4 := hE3.tr hb4)
          | (go_at_call 23; (with_reducible refine (hck _ (h.ext (hE.tr hE4))).mono ?_); rintro z w5 ⟨rfl, hb5⟩; have hE5 : Ext W w5 := hE4.tr hb5))
      have hF5 := hF.ext hE5
      have hX5 := hX.ext hE5
      have hEE := hE.tr hE5
      clear f0 f1 x0 x1 x2 x3 hF hX hE hE3 hE4 hE5 hb3 hb4 hb5 hck
      obtain ⟨f0, f1⟩ := hF5.facts
      obtain ⟨x0, x1, x2, x3, -⟩ := hX5.facts
      go_wp2_with fail
      refine (hcs _ (hT.ext hEE) (h.ext hEE)).mono ?_
      rintro z w6 ⟨rfl, hb6⟩
      have hF6 := hF5.ext hb6
      have hX6 := hX5.ext hb6
      have hE6 := hEE.tr hb6
      clear f0 f1 x0 x1 x2 x3 hF5 hX5 hEE hb6 hcs
      obtain ⟨f0, f1⟩ := hF6.facts
      obtain ⟨x0, x1, x2, x3, -⟩ := hX6.facts
      go_wp2_with fail
      refine (hhs _ (hT.ext hE6) (h.ext hE6)).mono ?_
      rintro z w7 ⟨rfl, hb7⟩
      have hE7 := hE6.tr hb7
      clear f0 f1 x0 x1 x2 x3 hF6 hX6 hE6 hb7 hhs
      go_wp2_with (go_at_call 17; refine (awake_c _ (hT.ext hE7) (hM.ext hE7)).mono ?_; rintro z w8 ⟨rfl, hb8⟩)
      go_ret
      exact ⟨rfl, hE7.tr hb8⟩
  · rw [show decide (a.xs.length ≤ 40) = false by simpa using hs] at hsh
    go_enter Tryd.func8, Tryd.ntmps8
    go_wp2_with (first
      | (go_at_call 21; refine hsh.mono ?_; rintro z w1 ⟨rfl, rfl⟩)
      | (go_at_call 17; refine (awake_c _ (hT.ext HE.out) (hM.ext HE.out)).mono ?_; rintro z w2 ⟨rfl, hb⟩))
    go_ret
    exact ⟨rfl, HE.out.tr hb⟩
end Go.Proofs.YtplnaajoeoiieaaDoor
