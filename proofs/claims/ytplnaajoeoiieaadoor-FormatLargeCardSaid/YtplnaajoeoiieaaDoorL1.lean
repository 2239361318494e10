/- FormatNames: the walk. -/
import Derived.Test.YtplnaajoeoiieaaDoorG2
import Derived.Test.YtplnaajoeoiieaaDoorH1
set_option linter.unusedVariables false
set_option linter.unusedSimpArgs false
namespace Go.Proofs.YtplnaajoeoiieaaDoor
open Go.RowKit

set_option maxHeartbeats 1000000 in
set_option maxRecDepth 100000 in
theorem fmt_c (k p : Int) (w : World) : Calls Tryd.prog 20 #[.agg #[.int .i64 k, .int .i64 p]] w fun e w' => e = .returned (.agg #[.int .i64 k, .int .i64 p]) ∧ Ext w w' := by
  go_enter Tryd.func20, Tryd.ntmps20
  go_wp2
  refine bodyPost_ret (v := .agg #[.int .i64 k, .int .i64 p]) (by simp [results, Tryd.results20, go_sem]) rfl ?_
  exact ⟨rfl, by repeat (with_reducible first | exact Ext.refl _ | refine Ext.set ?_ (by simp) _ _ | refine Ext.al ?_ _ | refine Ext.drewN ?_ _ | refine Ext.drew ?_)⟩

set_option maxHeartbeats 4000000 in
set_option maxRecDepth 100000 in
theorem formatNames_c (s : ByteArray) (w : World) (hT : Tab w) (hM : MapT w) :
    Calls Tryd.prog 3 #[.string s] w fun e w' => e = .returned (.bool true) ∧ Ext w w' := by
  by_cases hs : 100 < s.size
  · have hd : decide ((100 : Int) < (s.size : Int)) = true := by simp; omega
    generalize hsz : s.size = n at *
    go_enter Tryd.func3, Tryd.ntmps3
    go_wp2_with (go_at_call 17; refine (awake_c _ hT hM).mono ?_; rintro e w1 ⟨rfl, hb⟩)
    go_ret
    exact ⟨rfl, hb⟩
  · have hd : decide ((100 : Int) < (s.size : Int)) = false := by simp; omega
    have h1 := fun w hM => named_c s w hM (by omega)
    have h2 := fun w => rnamed_c s w
    generalize hsz : s.size = n at *
    generalize nmKP s.data.toList = o at *
    cases o with
    | none =>
      simp only [nmV, Option.getD, Option.isSome] at h1 h2
      go_enter Tryd.func3, Tryd.ntmps3
      go_wp2_with fail
      refine (h1 w hM).mono ?_
      rintro e w1 ⟨rfl, hb1⟩
      have hF1 := Bf.new w1 (.int .i64 0) (.int .i64 0)
      have hE1 := hb1.tr ((Ext.refl w1).al (Obj.cells #[.int .i64 0, .int .i64 0] 24))
      go_wp2_with fail
      refine (h2 _).mono ?_
      rintro e w2 ⟨rfl, hb2⟩
      have hF2 := hF1.ext hb2
      have hE3 := hE1.tr (hb2.tr ((Ext.refl w2).al (Obj.cells #[.int .i64 0, .int .i64 0] 28)))
      obtain ⟨f0, f1⟩ := hF2.facts
      have hl2 := hF2.lt
      go_wp2_with fail
      refine (awake_c _ (hT.ext hE3) (hM.ext hE3)).mono ?_
      rintro e w4 ⟨rfl, hb4⟩
      go_wp2
      go_ret
      exact ⟨rfl, hE3.tr hb4⟩
    | some kp =>
      obtain ⟨a, b⟩ := kp
      simp only [nmV, Option.getD, Option.isSome] at h1 h2
      go_enter Tryd.func3, Tryd.ntmps3
      go_wp2_with fail
      refine (h1 w hM).mono ?_
      rintro e w1 ⟨rfl, hb1⟩
      have hF1 := Bf.new w1 (.int .i64 a) (.int .i64 b)
      have hE1 := hb1.tr ((Ext.refl w1).al (Obj.cells #[.int .i64 a, .int .i64 b] 24))
      go_wp2_with fail
      refine (h2 _).mono ?_
      rintro e w2 ⟨rfl, hb2⟩
      have hF2 := hF1.ext hb2
      have hE3 := hE1.tr (hb2.tr ((Ext.refl w2).al (Obj.cells #[.int .i64 a, .int .i64 b] 28)))
      obtain ⟨f0, f1⟩ := hF2.facts
      have hl2 := hF2.lt
      go_wp2_with fail
      have hF3 := hF2.ext ((Ext.refl w2).al (Obj.cells #[.int .i64 a, .int .i64 b] 28))
      have hX3 : (w2.alloc (Obj.cells #[.int .i64 a, .int .i64 b] 28)).cell? ⟨w2.heap.size, 0, none⟩ = some (.int .i64 a) ∧ (w2.alloc (Obj.cells #[.int .i64 a, .int .i64 b] 28)).cell? ⟨w2.heap.size, 1, none⟩ = some (.int .i64 b) := by constructor <;> simp [go_sem]
      obtain ⟨x0, x1⟩ := hX3
      obtain ⟨y0, y1⟩ := hF3.facts
      clear hF3 hl2 f0 f1 h1 h2
      generalize w2.alloc (Obj.cells #[.int .i64 a, .int .i64 b] 28) = w3 at *
      go_region_held3 (fun w' => w'.cell? ⟨w1.heap.size, 0, none⟩ = some (.int .i64 a) ∧ w'.cell? ⟨w1.heap.size, 1, none⟩ = some (.int .i64 b) ∧ w'.cell? ⟨w2.heap.size, 0, none⟩ = some (.int .i64 a) ∧ w'.cell? ⟨w2.heap.size, 1, none⟩ = some (.int .i64 b))
        (first | go_keep | (go_split_ands; refine ⟨?_, ?_, ?_, ?_⟩ <;> (refine Ext.cell (w := w3) (by assumption) ?_; assumption)))
        (first
          | (go_at_call 20; (with_reducible refine (fmt_c a b _).mono ?_); rintro e w4 ⟨rfl, hb4⟩; have hE4 : Ext w3 w4 := (Ext.refl w3).drew.tr hb4)
          | (go_at_call 17; (with_reducible refine (awake_c _ (hT.ext (hE3.tr hE4)) (hM.ext (hE3.tr hE4))).mono ?_); rintro e w5 ⟨rfl, hb5⟩; have hE5 : Ext w3 w5 := hE4.tr hb5))
      go_wp2
      go_ret
      exact ⟨rfl, hE3.tr hE5⟩
end Go.Proofs.YtplnaajoeoiieaaDoor
