/- FormatCanonical: the walk. -/
import Derived.Test.YtplnaajoeoiieaaDoorS3
import Derived.Test.YtplnaajoeoiieaaDoorG2
set_option linter.unusedVariables false
set_option linter.unusedSimpArgs false
namespace Go.Proofs.YtplnaajoeoiieaaDoor
open Go.RowKit

/-- A float's box beside a slice of it: what Short is handed. -/
theorem two_boxes (w : World) (a : FA) (h : Rd w a.A a.c a.xs) : Bx ((w.alloc (.cells #[.int .i64 a.k, .bool a.neg, .int .i64 a.e, .slice a.A a.xs.length a.c] 37)).alloc (.cells #[.int .i64 a.k, .bool a.neg, .int .i64 a.e, .slice a.A a.xs.length a.c] 37)) w.heap.size (.int .i64 a.k) (.bool a.neg) (.int .i64 a.e) (.slice a.A a.xs.length a.c) ∧
    FRd ((w.alloc (.cells #[.int .i64 a.k, .bool a.neg, .int .i64 a.e, .slice a.A a.xs.length a.c] 37)).alloc (.cells #[.int .i64 a.k, .bool a.neg, .int .i64 a.e, .slice a.A a.xs.length a.c] 37)) (some ⟨w.heap.size + 1, 0, none⟩) 1 [a] ∧
    Ext w ((w.alloc (.cells #[.int .i64 a.k, .bool a.neg, .int .i64 a.e, .slice a.A a.xs.length a.c] 37)).alloc (.cells #[.int .i64 a.k, .bool a.neg, .int .i64 a.e, .slice a.A a.xs.length a.c] 37)) := by
  have hE := ((Ext.refl w).al (.cells #[.int .i64 a.k, .bool a.neg, .int .i64 a.e, .slice a.A a.xs.length a.c] 37)).al (.cells #[.int .i64 a.k, .bool a.neg, .int .i64 a.e, .slice a.A a.xs.length a.c] 37)
  have h2 := Bx.new (w.alloc (.cells #[.int .i64 a.k, .bool a.neg, .int .i64 a.e, .slice a.A a.xs.length a.c] 37)) (.int .i64 a.k) (.bool a.neg) (.int .i64 a.e) (.slice a.A a.xs.length a.c)
  rw [World.size_alloc] at h2
  exact ⟨(Bx.new w _ _ _ _).ext ((Ext.refl _).al _), FRd.one h2 (h.ext hE), hE⟩
set_option maxHeartbeats 1000000 in
set_option maxRecDepth 100000 in
theorem formatCanonical_c (a : FA) (w : World) (hT : Tab w) (hM : MapT w) (h : Rd w a.A a.c a.xs) :
    Calls Tryd.prog 6 #[a.v] w fun e w' => e = .returned (.bool true) ∧ Ext w w' := by
  obtain ⟨hX, hF, hE⟩ := two_boxes w a h
  have hsh := short_c _ _ [a] _ hF
  have hall : [a].all (fun b => decide (b.xs.length ≤ 40)) = decide (a.xs.length ≤ 40) := by simp
  rw [hall] at hsh
  clear hall hF
  have HX := Lib.hid hX
  have HE := Lib.hid hE
  clear hX hE
  by_cases hs : a.xs.length ≤ 40
  · rw [show decide (a.xs.length ≤ 40) = true by simpa using hs] at hsh
    have hcn := fun w hT h => ccanon_c a.k a.e a.neg a.A a.c a.xs w hT h (by omega)
    have hth := fun w => their_c a.k a.e a.neg a.A a.xs.length a.c w
    have hgd := fun w h => rgood_c a.k a.e a.neg a.A a.c a.xs w h (by omega)
    have hc1 : capE ⟨a.k, a.neg, a.e, a.A, a.c, a.xs⟩ = if (canon a.k a.neg a.e (val a.xs)).isSome then 0 else 151 := if_neg (by simp only; omega)
    have hc2 : capF ⟨a.k, a.neg, a.e, a.A, a.c, a.xs⟩ = (canon a.k a.neg a.e (val a.xs)).getD ⟨0, false, 0, 0⟩ := if_neg (by simp only; omega)
    rw [hc1, hc2] at hcn
    clear hc1 hc2
    obtain ⟨o, ho⟩ : ∃ o, canon a.k a.neg a.e (val a.xs) = o := ⟨_, rfl⟩
    rw [ho] at hcn hgd
    obtain ⟨k, neg, e, A, c, xs⟩ := a
    cases o with
    | none =>
      simp only [Option.isSome, Option.getD, Bool.false_eq_true, if_false] at hcn hgd hsh HX HE hth ho h hs ⊢
      go_enter Tryd.func6, Tryd.ntmps6
      go_wp2_with fail
      refine hsh.mono ?_
      rintro z w1 ⟨rfl, rfl⟩
      have hX := HX.out
      have hE := HE.out
      obtain ⟨x0, x1, x2, x3, -⟩ := hX.facts
      generalize ((w.alloc (.cells #[.int .i64 k, .bool neg, .int .i64 e, .slice A xs.length c] 37)).alloc (.cells #[.int .i64 k, .bool neg, .int .i64 e, .slice A xs.length c] 37)) = W at *
      clear HX HE hsh
      go_wp2_with fail
      refine (hcn _ (hT.ext hE) (h.ext hE)).mono ?_
      rintro z w2 ⟨u, rfl, ⟨v, rfl, hov⟩, hb2⟩
      rw [show cn (0 : Nat) = [] from digs_zero B] at hov
      obtain ⟨A2, c2, rfl, hr2⟩ := hov.rd
      simp only [List.length_nil]
      have hnn := fun w => none_c 0 0 false A2 0 c2 w
      rw [show decide ((0 : Int) = 0 ∧ false = false ∧ (0 : Int) = 0 ∧ (0 : Nat) = 0) = true by decide] at hnn
      have hY := Bx.new w2 (.int .i64 0) (.bool false) (.int .i64 0) (.slice A2 0 c2)
      have hE3 := (hE.tr hb2).al (.cells #[.int .i64 0, .bool false, .int .i64 0, .slice A2 0 c2] 37)
      have hX2 := hX.ext hb2
      have hlx := hX2.lt
      clear x0 x1 x2 x3
      obtain ⟨x0, x1, x2, x3, -⟩ := hX2.facts
      go_wp2_with fail
      refine (hth _).mono ?_
      rintro z w3 ⟨rfl, hb3⟩
      go_wp2_with fail
      refine (hgd _ (h.ext (hE3.tr hb3))).mono ?_
      rintro z w4 ⟨rfl, hb4⟩
      obtain ⟨y0, y1, y2, y3, -⟩ := (hY.ext (hb3.tr hb4)).facts
      go_wp2_with fail
      refine (hnn _).mono ?_
      rintro z w5 ⟨rfl, hb5⟩
      have hE5 := ((hE3.tr hb3).tr hb4).tr hb5
      go_wp2_with fail
      refine (awake_c _ (hT.ext hE5) (hM.ext hE5)).mono ?_
      rintro z w6 ⟨rfl, hb6⟩
      go_wp2
      go_ret
      exact ⟨rfl, hE5.tr hb6⟩
    | some f =>
      simp only [Option.isSome, Option.getD, if_true] at hcn hgd hsh HX HE hth ho h hs ⊢
      go_enter Tryd.func6, Tryd.ntmps6
      go_wp2_with fail
      refine hsh.mono ?_
      rintro z w1 ⟨rfl, rfl⟩
      have hX := HX.out
      have hE := HE.out
      obtain ⟨x0, x1, x2, x3, -⟩ := hX.facts
      generalize ((w.alloc (.cells #[.int .i64 k, .bool neg, .int .i64 e, .slice A xs.length c] 37)).alloc (.cells #[.int .i64 k, .bool neg, .int .i64 e, .slice A xs.length c] 37)) = W at *
      clear HX HE hsh
      go_wp2_with fail
      refine (hcn _ (hT.ext hE) (h.ext hE)).mono ?_
      rintro z w2 ⟨u, rfl, ⟨v, rfl, hov⟩, hb2⟩
      obtain ⟨A2, c2, rfl, hr2⟩ := hov.rd
      have his := fun w h1 h2 => lis_c f.kind k f.exp e f.neg neg A2 A c2 c (cn f.mag) xs w h1 h2 (by omega) f ho
      rw [show decide (f.kind = f.kind ∧ f.neg = f.neg ∧ f.exp = f.exp ∧ cn f.mag = cn f.mag) = true by simp] at his
      have hY := Bx.new w2 (.int .i64 f.kind) (.bool f.neg) (.int .i64 f.exp) (.slice A2 (cn f.mag).length c2)
      have hA2 := (Ext.refl w2).al (.cells #[.int .i64 f.kind, .bool f.neg, .int .i64 f.exp, .slice A2 (cn f.mag).length c2] 37)
      have hE3 := (hE.tr hb2).tr hA2
      have hX2 := hX.ext hb2
      have hlx := hX2.lt
      clear x0 x1 x2 x3
      obtain ⟨x0, x1, x2, x3, -⟩ := hX2.facts
      go_wp2_with fail
      refine (hth _).mono ?_
      rintro z w3 ⟨rfl, hb3⟩
      go_wp2_with fail
      refine (hgd _ (h.ext (hE3.tr hb3))).mono ?_
      rintro z w4 ⟨rfl, hb4⟩
      have hE4 := (hE3.tr hb3).tr hb4
      clear x0 x1 x2 x3
      obtain ⟨y0, y1, y2, y3, -⟩ := (hY.ext (hb3.tr hb4)).facts
      obtain ⟨x0, x1, x2, x3, -⟩ := ((hX2.ext hA2).ext (hb3.tr hb4)).facts
      have hr4 := (hr2.ext hA2).ext (hb3.tr hb4)
      clear hX hY hX2 ho hcn hgd
      go_wp2_with fail
      go_region_held3 (fun w' => w'.cell? ⟨w.heap.size, 0, none⟩ = some (.int .i64 k) ∧ w'.cell? ⟨w.heap.size, 1, none⟩ = some (.bool neg) ∧ w'.cell? ⟨w.heap.size, 2, none⟩ = some (.int .i64 e) ∧ w'.cell? ⟨w.heap.size, 3, none⟩ = some (.slice A xs.length c) ∧
          w'.cell? ⟨w2.heap.size, 0, none⟩ = some (.int .i64 f.kind) ∧ w'.cell? ⟨w2.heap.size, 1, none⟩ = some (.bool f.neg) ∧ w'.cell? ⟨w2.heap.size, 2, none⟩ = some (.int .i64 f.exp) ∧ w'.cell? ⟨w2.heap.size, 3, none⟩ = some (.slice A2 (cn f.mag).length c2))
        (first | go_keep | (go_split_ands; refine ⟨?_, ?_, ?_, ?_, ?_, ?_, ?_, ?_⟩ <;> (refine Ext.cell (w := w4) (by assumption) ?_; assumption)))
        (first
          | (go_at_call 24; (with_reducible refine (hth _).mono ?_); rintro z w5 ⟨rfl, hb5⟩; have hE5 : Ext w4 w5 := (Ext.refl w4).drew.tr hb5)
          | (go_at_call 31; (with_reducible refine (his _ (hr4.ext hE5) (h.ext (hE4.tr hE5))).mono ?_); rintro z w6 ⟨rfl, hb6⟩; have hE6 : Ext w4 w6 := hE5.tr hb6)
          | (go_at_call 17; (with_reducible refine (awake_c _ (hT.ext (hE4.tr hE6)) (hM.ext (hE4.tr hE6))).mono ?_); rintro z w7 ⟨rfl, hb7⟩; have hE7 : Ext w4 w7 := hE6.tr hb7))
      go_wp2
      go_ret
      exact ⟨rfl, hE4.tr hE7⟩
  · rw [show decide (a.xs.length ≤ 40) = false by simpa using hs] at hsh
    go_enter Tryd.func6, Tryd.ntmps6
    go_wp2_with (first
      | (go_at_call 21; refine hsh.mono ?_; rintro z w1 ⟨rfl, rfl⟩)
      | (go_at_call 17; refine (awake_c _ (hT.ext HE.out) (hM.ext HE.out)).mono ?_; rintro z w2 ⟨rfl, hb⟩))
    go_ret
    exact ⟨rfl, HE.out.tr hb⟩
end Go.Proofs.YtplnaajoeoiieaaDoor
