/- FormatSame: the walk. -/
import Derived.Test.YtplnaajoeoiieaaDoorT1
import Derived.Test.YtplnaajoeoiieaaDoorG2
set_option linter.unusedVariables false
set_option linter.unusedSimpArgs false
namespace Go.Proofs.YtplnaajoeoiieaaDoor
open Go.RowKit

/-- Two floats' boxes and a slice of both. -/
theorem boxesTwo (w : World) (a b : FA) (ha : Rd w a.A a.c a.xs) (hb : Rd w b.A b.c b.xs) : ∀ W, W = (((w.alloc (.cells #[.int .i64 a.k, .bool a.neg, .int .i64 a.e, .slice a.A a.xs.length a.c] 37)).alloc (.cells #[.int .i64 b.k, .bool b.neg, .int .i64 b.e, .slice b.A b.xs.length b.c] 37)).alloc
      (.cells #[.int .i64 a.k, .bool a.neg, .int .i64 a.e, .slice a.A a.xs.length a.c, .int .i64 b.k, .bool b.neg, .int .i64 b.e, .slice b.A b.xs.length b.c] 37)) →
    Bx W w.heap.size (.int .i64 a.k) (.bool a.neg) (.int .i64 a.e) (.slice a.A a.xs.length a.c) ∧ Bx W (w.heap.size + 1) (.int .i64 b.k) (.bool b.neg) (.int .i64 b.e) (.slice b.A b.xs.length b.c) ∧ FRd W (some ⟨w.heap.size + 2, 0, none⟩) 2 [a, b] ∧ Ext w W := by
  rintro W rfl
  have h1 := (Ext.refl w).al (.cells #[.int .i64 a.k, .bool a.neg, .int .i64 a.e, .slice a.A a.xs.length a.c] 37)
  have h2 := h1.al (.cells #[.int .i64 b.k, .bool b.neg, .int .i64 b.e, .slice b.A b.xs.length b.c] 37)
  have hE := h2.al (.cells #[.int .i64 a.k, .bool a.neg, .int .i64 a.e, .slice a.A a.xs.length a.c, .int .i64 b.k, .bool b.neg, .int .i64 b.e, .slice b.A b.xs.length b.c] 37)
  have x1 := Bx.new w (.int .i64 a.k) (.bool a.neg) (.int .i64 a.e) (.slice a.A a.xs.length a.c)
  have x2 := Bx.new (w.alloc (.cells #[.int .i64 a.k, .bool a.neg, .int .i64 a.e, .slice a.A a.xs.length a.c] 37)) (.int .i64 b.k) (.bool b.neg) (.int .i64 b.e) (.slice b.A b.xs.length b.c)
  rw [World.size_alloc] at x2
  have hn := heap_alloc_new ((w.alloc (.cells #[.int .i64 a.k, .bool a.neg, .int .i64 a.e, .slice a.A a.xs.length a.c] 37)).alloc (.cells #[.int .i64 b.k, .bool b.neg, .int .i64 b.e, .slice b.A b.xs.length b.c] 37)) (.cells #[.int .i64 a.k, .bool a.neg, .int .i64 a.e, .slice a.A a.xs.length a.c, .int .i64 b.k, .bool b.neg, .int .i64 b.e, .slice b.A b.xs.length b.c] 37)
  rw [World.size_alloc, World.size_alloc] at hn
  refine ⟨(x1.ext ((Ext.refl _).al _)).ext ((Ext.refl _).al _), x2.ext ((Ext.refl _).al _), ⟨by simp, by simp, ?_⟩, hE⟩
  intro i hi
  have hi2 : i < 2 := by simpa using hi
  have c := fun j => cell_of_row _ _ j _ _ _ hn
  rcases (show i = 0 ∨ i = 1 by omega) with rfl | rfl
  · exact ⟨_, rfl, c 0, c 1, c 2, c 3, ha.ext hE⟩
  · exact ⟨_, rfl, c 4, c 5, c 6, c 7, hb.ext hE⟩
set_option maxHeartbeats 2000000 in
set_option maxRecDepth 100000 in
theorem formatSame_c (a b : FA) (w : World) (hT : Tab w) (hM : MapT w) (ha : Rd w a.A a.c a.xs) (hb : Rd w b.A b.c b.xs) :
    Calls Tryd.prog 9 #[a.v, b.v] w fun e w' => e = .returned (.bool true) ∧ Ext w w' := by
  obtain ⟨hX, hY, hF, hE⟩ := boxesTwo w a b ha hb _ rfl
  have hsh := short_c _ _ [a, b] _ hF
  have hall : [a, b].all (fun b => decide (b.xs.length ≤ 40)) = decide (a.xs.length ≤ 40 ∧ b.xs.length ≤ 40) := by simp
  rw [hall] at hsh
  clear hall hF
  have HX := Lib.hid hX
  have HY := Lib.hid hY
  have HE := Lib.hid hE
  clear hX hY hE
  by_cases hs : a.xs.length ≤ 40 ∧ b.xs.length ≤ 40
  · rw [show decide (a.xs.length ≤ 40 ∧ b.xs.length ≤ 40) = true by simpa using hs] at hsh
    obtain ⟨hs1, hs2⟩ := hs
    have hab := fun w hT h1 h2 => fsame_c a b w hT h1 h2 (by omega) (by omega)
    have hba := fun w hT h1 h2 => fsame_c b a w hT h1 h2 (by omega) (by omega)
    have haa := fun w hT h1 => fsame_c a a w hT h1 h1 (by omega) (by omega)
    have hrs := fun w h1 h2 => rsame15_c a b w h1 h2 (by omega) (by omega)
    have hta := fun w => their_c a.k a.e a.neg a.A a.xs.length a.c w
    have htb := fun w => their_c b.k b.e b.neg b.A b.xs.length b.c w
    have hgd := fun w h => rgood_c a.k a.e a.neg a.A a.c a.xs w h (by omega)
    have haw := fun w h1 h2 => awake_c w h1 h2
    rw [sameO_comm] at hba
    rw [sameO_self] at haa
    rw [show canon a.k a.neg a.e (val a.xs) = a.can from rfl] at hgd
    generalize sameO a.can b.can = S at *
    generalize a.can.isSome = G at *
    obtain ⟨ak, an, ae, aA, ac, as1⟩ := a
    obtain ⟨bk, bn, be, bA, bc, bs1⟩ := b
    simp only at hsh HX HY HE hta htb ha hb hab hba haa hrs hgd
    clear hs1 hs2
    go_enter Tryd.func9, Tryd.ntmps9
    go_wp2_with fail
    refine hsh.mono ?_
    rintro z w1 ⟨rfl, rfl⟩
    have hX := HX.out
    have hY := HY.out
    have hE := HE.out
    clear HX HY HE hsh
    generalize (((w.alloc (.cells #[.int .i64 ak, .bool an, .int .i64 ae, .slice aA as1.length ac] 37)).alloc (.cells #[.int .i64 bk, .bool bn, .int .i64 be, .slice bA bs1.length bc] 37)).alloc
      (.cells #[.int .i64 ak, .bool an, .int .i64 ae, .slice aA as1.length ac, .int .i64 bk, .bool bn, .int .i64 be, .slice bA bs1.length bc] 37)) = W at *
    obtain ⟨x0, x1, x2, x3, -⟩ := hX.facts
    obtain ⟨y0, y1, y2, y3, -⟩ := hY.facts
    have p0 := Later.cell x0
    have p1 := Later.cell x1
    have p2 := Later.cell x2
    have p3 := Later.cell x3
    have q0 := Later.cell y0
    have q1 := Later.cell y1
    have q2 := Later.cell y2
    have q3 := Later.cell y3
    go_wp2_with fail
    refine wp_region_later (by kernel_rfl) (by kernel_rfl) ?_
    repeat (go_big_quiet_step (first
      | (go_at_call 47; (with_reducible refine Calls.later (hab _ (hT.ext (hE.tr (Later.h _))) (ha.ext (hE.tr (Later.h _))) (hb.ext (hE.tr (Later.h _))))))
      | (go_at_call 47; (with_reducible refine Calls.later (hba _ (hT.ext (hE.tr (Later.h _))) (hb.ext (hE.tr (Later.h _))) (ha.ext (hE.tr (Later.h _))))))
      | (go_at_call 47; (with_reducible refine Calls.later (haa _ (hT.ext (hE.tr (Later.h _))) (ha.ext (hE.tr (Later.h _))))))
      | (go_at_call 24; (with_reducible refine Calls.later (hta _)))
      | (go_at_call 24; (with_reducible refine Calls.later (htb _)))
      | (go_at_call 48; (with_reducible refine Calls.later (hrs _ (ha.ext (hE.tr (Later.h _))) (hb.ext (hE.tr (Later.h _))))))
      | (go_at_call 33; (with_reducible refine Calls.later (hgd _ (ha.ext (hE.tr (Later.h _))))))
      | (go_at_call 17; (with_reducible refine Calls.later (haw _ (hT.ext (hE.tr (Later.h _))) (hM.ext (hE.tr (Later.h _))))))))
    refine wpQuiet_nil ?_
    intro _ hw'
    obtain ⟨⟨wq, hq⟩, rfl⟩ := hw'
    go_wp2
    go_ret
    exact ⟨rfl, hE.tr hq⟩
  · rw [show decide (a.xs.length ≤ 40 ∧ b.xs.length ≤ 40) = false by simpa using hs] at hsh
    clear hs
    go_enter Tryd.func9, Tryd.ntmps9
    go_wp2_with (first
      | (go_at_call 21; refine hsh.mono ?_; rintro z w1 ⟨rfl, rfl⟩)
      | (go_at_call 17; refine (awake_c _ (hT.ext HE.out) (hM.ext HE.out)).mono ?_; rintro z w2 ⟨rfl, hb2⟩))
    go_ret
    exact ⟨rfl, HE.out.tr hb2⟩
end Go.Proofs.YtplnaajoeoiieaaDoor
