/- The reference 15: Same. -/
import Derived.Test.YtplnaajoeoiieaaDoorS3
import Derived.Test.YtplnaajoeoiieaaDoorS9
import Derived.Test.YtplnaajoeoiieaaDoorQ0
set_option linter.unusedVariables false
set_option linter.unusedSimpArgs false
namespace Go.Proofs.YtplnaajoeoiieaaDoor
open Go.RowKit

theorem eq_sameO (f g : Fl) : decide (f.kind = g.kind ∧ f.neg = g.neg ∧ f.exp = g.exp ∧ cn f.mag = cn g.mag) = sameO (some f) (some g) := by
  have hc : (cn f.mag = cn g.mag) ↔ f.mag = g.mag := ⟨fun h => by rw [← val_cn f.mag, ← val_cn g.mag, h], fun h => by rw [h]⟩
  simp only [sameO, cmp3_zero, hc]
  by_cases h1 : f.kind = g.kind <;> by_cases h2 : f.neg = g.neg <;> by_cases h3 : f.exp = g.exp <;> by_cases h4 : f.mag = g.mag <;> simp [h1, h2, h3, h4]
set_option maxHeartbeats 2000000 in
set_option maxRecDepth 100000 in
theorem rsame15_c (a b : FA) (w : World) (ha : Rd w a.A a.c a.xs) (hb : Rd w b.A b.c b.xs) (hla : a.xs.length ≤ 4096) (hlb : b.xs.length ≤ 4096) :
    Calls Tryd.prog 48 #[a.v, b.v] w fun z w' => z = .returned (.bool (sameO a.can b.can)) ∧ Ext w w' := by
  have hga := fun w h => rgood_c a.k a.e a.neg a.A a.c a.xs w h hla
  have hgb := fun w h => rgood_c b.k b.e b.neg b.A b.c b.xs w h hlb
  have hca := fun f hf w h => rcanonical_c a.k a.e a.neg a.A a.c a.xs w h hla f hf
  have hcb := fun f hf w h => rcanonical_c b.k b.e b.neg b.A b.c b.xs w h hlb f hf
  have hX := Br.new w (.int .i64 a.k) (.bool a.neg) (.int .i64 a.e) (.slice a.A a.xs.length a.c)
  have hY := Br.new (w.alloc (.cells #[.int .i64 a.k, .bool a.neg, .int .i64 a.e, .slice a.A a.xs.length a.c] 43)) (.int .i64 b.k) (.bool b.neg) (.int .i64 b.e) (.slice b.A b.xs.length b.c)
  have hE := ((Ext.refl w).al (.cells #[.int .i64 a.k, .bool a.neg, .int .i64 a.e, .slice a.A a.xs.length a.c] 43)).al (.cells #[.int .i64 b.k, .bool b.neg, .int .i64 b.e, .slice b.A b.xs.length b.c] 43)
  rw [World.size_alloc] at hY
  replace hX := hX.ext ((Ext.refl _).al (.cells #[.int .i64 b.k, .bool b.neg, .int .i64 b.e, .slice b.A b.xs.length b.c] 43))
  have HX := Lib.hid hX
  have HY := Lib.hid hY
  have HE := Lib.hid hE
  clear hX hY hE
  unfold FA.can
  obtain ⟨ak, an, ae, aA, ac, as1⟩ := a
  obtain ⟨bk, bn, be, bA, bc, bs1⟩ := b
  simp only at hca hcb hga hgb ha hb HX HY HE ⊢
  obtain ⟨oa, hoa⟩ : ∃ o, canon ak an ae (val as1) = o := ⟨_, rfl⟩
  obtain ⟨ob, hob⟩ : ∃ o, canon bk bn be (val bs1) = o := ⟨_, rfl⟩
  rw [hoa] at hga hca
  rw [hob] at hgb hcb
  rw [hoa, hob]
  clear hoa hob hla hlb
  cases oa with
  | none =>
    rw [show sameO none ob = false by cases ob <;> rfl]
    simp only [Option.isSome_none] at hga
    clear hca hcb hgb
    go_enter Tryd.func48, Tryd.ntmps48
    go_wp2_with fail
    have hX := HX.out
    have hY := HY.out
    have hE := HE.out
    clear HX HY HE
    generalize ((w.alloc (.cells #[.int .i64 ak, .bool an, .int .i64 ae, .slice aA as1.length ac] 43)).alloc (.cells #[.int .i64 bk, .bool bn, .int .i64 be, .slice bA bs1.length bc] 43)) = W at *
    obtain ⟨x0, x1, x2, x3, -⟩ := hX.facts
    have p0 := Later.cell x0
    have p1 := Later.cell x1
    have p2 := Later.cell x2
    have p3 := Later.cell x3
    refine wp_region_later (by kernel_rfl) (by kernel_rfl) ?_
    repeat (go_big_quiet_step (first
      | (go_at_call 33; refine Calls.later (hga _ (ha.ext (hE.tr (Later.h _)))))))
    refine wpQuiet_nil ?_
    intro _ hw'
    obtain ⟨⟨wq, hq⟩, rfl⟩ := hw'
    go_wp2
    go_ret
    exact ⟨rfl, hE.tr hq⟩
  | some f =>
    cases ob with
    | none =>
      rw [show sameO (some f) none = false from rfl]
      simp only [Option.isSome_none] at hgb
      simp only [Option.isSome_some] at hga
      clear hca hcb
      go_enter Tryd.func48, Tryd.ntmps48
      go_wp2_with fail
      have hX := HX.out
      have hY := HY.out
      have hE := HE.out
      clear HX HY HE
      generalize ((w.alloc (.cells #[.int .i64 ak, .bool an, .int .i64 ae, .slice aA as1.length ac] 43)).alloc (.cells #[.int .i64 bk, .bool bn, .int .i64 be, .slice bA bs1.length bc] 43)) = W at *
      obtain ⟨x0, x1, x2, x3, -⟩ := hX.facts
      obtain ⟨y0, y1, y2, y3, -⟩ := hY.facts
      have p0 := Later.cell x0
      have p1 := Later.cell x1
      have p2 := Later.cell x2
      have p3 := Later.cell x3
      have q0 := Later.cell y0
      have q1 := Later.cell y1
      have q2 := Later.cell y2
      have q3 := Later.cell y3
      refine wp_region_later (by kernel_rfl) (by kernel_rfl) ?_
      repeat (go_big_quiet_step (first
        | (go_at_call 33; (with_reducible refine Calls.later (hga _ (ha.ext (hE.tr (Later.h _))))))
        | (go_at_call 33; (with_reducible refine Calls.later (hgb _ (hb.ext (hE.tr (Later.h _))))))))
      refine wpQuiet_nil ?_
      intro _ hw'
      obtain ⟨⟨wq, hq⟩, rfl⟩ := hw'
      go_wp2
      go_ret
      exact ⟨rfl, hE.tr hq⟩
    | some g =>
      simp only [Option.isSome_some] at hga hgb
      replace hca := hca f rfl
      replace hcb := hcb g rfl
      have heq := fun A1 A2 c1 c2 w h1 h2 => requal_c f.kind g.kind f.exp g.exp f.neg g.neg A1 A2 c1 c2 (cn f.mag) (cn g.mag) w h1 h2
      rw [eq_sameO] at heq
      generalize sameO (some f) (some g) = S at *
      go_enter Tryd.func48, Tryd.ntmps48
      go_wp2_with fail
      have hX := HX.out
      have hY := HY.out
      have hE := HE.out
      clear HX HY HE
      generalize ((w.alloc (.cells #[.int .i64 ak, .bool an, .int .i64 ae, .slice aA as1.length ac] 43)).alloc (.cells #[.int .i64 bk, .bool bn, .int .i64 be, .slice bA bs1.length bc] 43)) = W at *
      obtain ⟨x0, x1, x2, x3, -⟩ := hX.facts
      obtain ⟨y0, y1, y2, y3, -⟩ := hY.facts
      go_region_held3 (fun w' => w'.cell? ⟨w.heap.size, 0, none⟩ = some (.int .i64 ak) ∧ w'.cell? ⟨w.heap.size, 1, none⟩ = some (.bool an) ∧ w'.cell? ⟨w.heap.size, 2, none⟩ = some (.int .i64 ae) ∧ w'.cell? ⟨w.heap.size, 3, none⟩ = some (.slice aA as1.length ac) ∧
          w'.cell? ⟨w.heap.size + 1, 0, none⟩ = some (.int .i64 bk) ∧ w'.cell? ⟨w.heap.size + 1, 1, none⟩ = some (.bool bn) ∧ w'.cell? ⟨w.heap.size + 1, 2, none⟩ = some (.int .i64 be) ∧ w'.cell? ⟨w.heap.size + 1, 3, none⟩ = some (.slice bA bs1.length bc))
        (first | go_keep | (go_split_ands; refine ⟨?_, ?_, ?_, ?_, ?_, ?_, ?_, ?_⟩ <;> (refine Ext.cell (w := W) (by assumption) ?_; assumption)))
        (first
          | (go_at_call 33; (with_reducible refine (hga _ (ha.ext (hE.tr ((Ext.refl W).drew)))).mono ?_); rintro z w1 ⟨rfl, hb1⟩; have hE1 : Ext W w1 := (Ext.refl W).drew.tr hb1)
          | (go_at_call 33; (with_reducible refine (hgb _ (hb.ext (hE.tr hE1))).mono ?_); rintro z w2 ⟨rfl, hb2⟩; have hE2 : Ext W w2 := hE1.tr hb2)
          | (go_at_call 85; (with_reducible refine (hca _ (ha.ext (hE.tr hE2))).mono ?_); rintro z w3 ⟨u3, rfl, ⟨v3, rfl, ho3⟩, hb3⟩; obtain ⟨A3, c3, rfl, hr3⟩ := ho3.rd; have hE3 : Ext W w3 := hE2.tr hb3)
          | (go_at_call 85; (with_reducible refine (hcb _ (hb.ext (hE.tr hE3))).mono ?_); rintro z w4 ⟨u4, rfl, ⟨v4, rfl, ho4⟩, hb4⟩; obtain ⟨A4, c4, rfl, hr4⟩ := ho4.rd; have hE4 : Ext W w4 := hE3.tr hb4)
          | (go_at_call 57; (with_reducible refine (heq A3 A4 c3 c4 _ (hr3.ext hb4) hr4).mono ?_); rintro z w5 ⟨rfl, hb5⟩; have hE5 : Ext W w5 := hE4.tr hb5))
      go_wp2
      go_ret
      exact ⟨rfl, hE.tr hE5⟩
end Go.Proofs.YtplnaajoeoiieaaDoor
