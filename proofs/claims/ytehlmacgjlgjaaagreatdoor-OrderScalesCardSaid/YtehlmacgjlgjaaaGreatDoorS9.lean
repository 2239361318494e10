/- package format: Same. -/
import Derived.Test.YtehlmacgjlgjaaaGreatDoorF6
import Derived.Test.YtehlmacgjlgjaaaGreatDoorW3
set_option linter.unusedVariables false
set_option linter.unusedSimpArgs false
namespace Go.Proofs.YtehlmacgjlgjaaaGreatDoor
open Go.RowKit
attribute [local go_sem ↓] Go.wp_at_zero Go.wp_at_succ

/-- What Same answers of two canonical floats, where there are. -/
def sameO : Option Fl → Option Fl → Bool
  | some f, some g => (f.kind == g.kind) && (f.neg == g.neg) && (f.exp == g.exp) && (cmp3 f.mag g.mag == 0)
  | _, _ => false
theorem cmp3_zero (a b : Nat) : (cmp3 a b == 0) = decide (a = b) := by
  rcases Nat.lt_trichotomy a b with h | h | h
  · rw [cmp3_lt h, decide_eq_false (by omega)]; rfl
  · rw [cmp3_eq h, decide_eq_true h]; rfl
  · rw [cmp3_gt h, decide_eq_false (by omega)]; rfl
theorem sameO_self (o : Option Fl) : sameO o o = o.isSome := by
  cases o with
  | none => rfl
  | some f => simp only [sameO, cmp3_zero]; simp
theorem sameO_comm (o o' : Option Fl) : sameO o o' = sameO o' o := by
  cases o with
  | none => cases o' <;> rfl
  | some f =>
    cases o' with
    | none => rfl
    | some g =>
      simp only [sameO, cmp3_zero]
      rw [show (f.kind == g.kind) = (g.kind == f.kind) from Bool.beq_comm, show (f.neg == g.neg) = (g.neg == f.neg) from Bool.beq_comm, show (f.exp == g.exp) = (g.exp == f.exp) from Bool.beq_comm, show decide (f.mag = g.mag) = decide (g.mag = f.mag) from by simp only [eq_comm]]
theorem CanR.use {w : World} {o : Option Fl} {z : Ending} {w' : World} (h : CanR w o z w') :
    ∃ k n e A c l, z = .returned (.tuple #[flV k n e (.slice A l c), .bool o.isSome]) ∧ Ext w w' ∧ ∀ f, o = some f → k = f.kind ∧ n = f.neg ∧ e = f.exp ∧ l = (cn f.mag).length ∧ Rd w' A c (cn f.mag) := by
  obtain ⟨u, rfl, hE, hf, k, n, e, A, l, c, rfl⟩ := h
  refine ⟨k, n, e, A, c, l, rfl, hE, ?_⟩
  intro f hof
  obtain ⟨v, hv, hown⟩ := hf f hof
  obtain ⟨A1, c1, rfl, hr⟩ := hown.rd
  simp only [flV, Value.agg.injEq, Array.mk.injEq, List.cons.injEq, Value.int.injEq, Value.bool.injEq, Value.slice.injEq, true_and, and_true] at hv
  obtain ⟨rfl, rfl, rfl, rfl, rfl, rfl⟩ := hv
  exact ⟨rfl, rfl, rfl, rfl, hr⟩
set_option maxHeartbeats 2000000 in
set_option maxRecDepth 100000 in
theorem fsame_c (a b : FA) (w : World) (hT : Tab w) (ha : Rd w a.A a.c a.xs) (hb : Rd w b.A b.c b.xs) (hla : a.xs.length ≤ 10000000) (hlb : b.xs.length ≤ 10000000) :
    Calls Tryz.prog 17 #[a.v, b.v] w fun z w' => z = .returned (.bool (sameO a.can b.can)) ∧ Ext w w' := by
  obtain ⟨oa, hoa⟩ : ∃ o, a.can = o := ⟨_, rfl⟩
  obtain ⟨ob, hob⟩ : ∃ o, b.can = o := ⟨_, rfl⟩
  have hca := fun w hT h => canonical_c a.k a.neg a.e a.A a.c a.xs w hT h hla
  have hcb := fun w hT h => canonical_c b.k b.neg b.e b.A b.c b.xs w hT h hlb
  have e1 : canon a.k a.neg a.e (val a.xs) = oa := hoa
  have e2 : canon b.k b.neg b.e (val b.xs) = ob := hob
  rw [e1] at hca
  rw [e2] at hcb
  rw [hoa, hob]
  clear e1 e2 hoa hob hla hlb
  obtain ⟨S, hS⟩ : ∃ S, sameO oa ob = S := ⟨_, rfl⟩
  rw [hS]
  have HS := Lib.hid hS
  clear hS
  have hX := Bx.new w (.int .i64 a.k) (.bool a.neg) (.int .i64 a.e) (.slice a.A a.xs.length a.c)
  have hY := Bx.new (w.alloc (.cells #[.int .i64 a.k, .bool a.neg, .int .i64 a.e, .slice a.A a.xs.length a.c] 29)) (.int .i64 b.k) (.bool b.neg) (.int .i64 b.e) (.slice b.A b.xs.length b.c)
  have hE := ((Ext.refl w).al (.cells #[.int .i64 a.k, .bool a.neg, .int .i64 a.e, .slice a.A a.xs.length a.c] 29)).al (.cells #[.int .i64 b.k, .bool b.neg, .int .i64 b.e, .slice b.A b.xs.length b.c] 29)
  rw [World.size_alloc] at hY
  replace hX := hX.ext ((Ext.refl _).al (.cells #[.int .i64 b.k, .bool b.neg, .int .i64 b.e, .slice b.A b.xs.length b.c] 29))
  have HX := Lib.hid hX
  have HY := Lib.hid hY
  have HE := Lib.hid hE
  clear hX hY hE
  obtain ⟨ak, an, ae, aA, ac, as1⟩ := a
  obtain ⟨bk, bn, be, bA, bc, bs1⟩ := b
  simp only at hca hcb ha hb HX HY HE
  go_enter Tryz.func17, Tryz.ntmps17
  go_wp2_with fail
  have hX := HX.out
  have hY := HY.out
  have hE := HE.out
  clear HX HY HE
  generalize ((w.alloc (.cells #[.int .i64 ak, .bool an, .int .i64 ae, .slice aA as1.length ac] 29)).alloc (.cells #[.int .i64 bk, .bool bn, .int .i64 be, .slice bA bs1.length bc] 29)) = W at *
  refine (hca _ (hT.ext hE) (ha.ext hE)).mono ?_
  intro z w1 hz
  obtain ⟨k1, n1, e1, A1, c1, l1, rfl, hb1, hf1⟩ := hz.use
  have HF1 := Lib.hid hf1
  clear hf1 hz
  have hP := Bx.new w1 (.int .i64 k1) (.bool n1) (.int .i64 e1) (.slice A1 l1 c1)
  have hA2 := (Ext.refl w1).al (.cells #[.int .i64 k1, .bool n1, .int .i64 e1, .slice A1 l1 c1] 29)
  have hE2 := (hE.tr hb1).tr hA2
  have hY2 := (hY.ext hb1)
  have hly := hY2.lt
  obtain ⟨y0, y1, y2, y3, -⟩ := hY2.facts
  clear hX hY
  go_wp2_with fail
  refine (hcb _ (hT.ext hE2) (hb.ext hE2)).mono ?_
  intro z w3 hz
  obtain ⟨k2, n2, e2, A2, c2, l2, rfl, hb3, hf2⟩ := hz.use
  have HF2 := Lib.hid hf2
  clear hf2 hz y0 y1 y2 y3 hly hY2
  have hQ := Bx.new w3 (.int .i64 k2) (.bool n2) (.int .i64 e2) (.slice A2 l2 c2)
  have hA4 := (Ext.refl w3).al (.cells #[.int .i64 k2, .bool n2, .int .i64 e2, .slice A2 l2 c2] 29)
  have hE4 := (hE2.tr hb3).tr hA4
  have hP3 := hP.ext hb3
  have hlp := hP3.lt
  have hP4 := hP3.ext hA4
  cases oa with
  | none =>
    obtain rfl : S = false := by rw [← HS.out]; cases ob <;> rfl
    clear HS HF1 HF2
    simp only [Option.isSome_none]
    generalize ob.isSome = bo at *
    go_wp2
    go_ret
    exact ⟨rfl, hE4⟩
  | some f =>
    cases ob with
    | none =>
      obtain rfl : S = false := HS.out.symm
      simp only [Option.isSome]
      go_wp2
      go_ret
      exact ⟨rfl, hE4⟩
    | some g =>
      obtain ⟨rfl, rfl, rfl, rfl, hr1⟩ := HF1.out f rfl
      obtain ⟨rfl, rfl, rfl, rfl, hr2⟩ := HF2.out g rfl
      clear HF1 HF2
      have hcm := fun w h1 h2 => cmp_c A1 A2 c1 c2 (cn f.mag) (cn g.mag) w h1 h2
      rw [val_cn, val_cn] at hcm
      have hrr1 := ((hr1.ext hA2).ext hb3).ext hA4
      have hrr2 := hr2.ext hA4
      have hS : S = ((f.kind == g.kind) && (f.neg == g.neg) && (f.exp == g.exp) && (cmp3 f.mag g.mag == 0)) := HS.out.symm
      clear HS
      simp only [Option.isSome]
      generalize cmp3 f.mag g.mag = t at *
      obtain ⟨b1, q1⟩ : ∃ q, (f.kind == g.kind) = q := ⟨_, rfl⟩
      obtain ⟨b2, q2⟩ : ∃ q, (f.neg == g.neg) = q := ⟨_, rfl⟩
      obtain ⟨b3, q3⟩ : ∃ q, (f.exp == g.exp) = q := ⟨_, rfl⟩
      obtain ⟨b4, q4⟩ : ∃ q, (t == 0) = q := ⟨_, rfl⟩
      rw [q1, q2, q3, q4] at hS
      obtain ⟨p0, p1, p2, p3, -⟩ := hP4.facts
      obtain ⟨r0, r1, r2, r3, -⟩ := hQ.facts
      subst hS
      cases b1
      · go_wp2
        go_ret
        exact ⟨rfl, hE4⟩
      · cases b2
        · go_wp2
          go_ret
          exact ⟨rfl, hE4⟩
        · cases b3
          · go_wp2
            go_ret
            exact ⟨rfl, hE4⟩
          · go_wp2_with fail
            refine (hcm _ hrr1 hrr2).mono ?_
            rintro z w5 ⟨rfl, n, rfl⟩
            go_wp2
            go_ret
            exact ⟨rfl, hE4.drewN n⟩
end Go.Proofs.YtehlmacgjlgjaaaGreatDoor
