/- The reference 03: Trim, Sign, Mul, Add, Sub of integers. -/
import Derived.Test.YtehlmacgjlgjaaaGreatDoorU1
set_option linter.unusedVariables false
set_option linter.unusedSimpArgs false
namespace Go.Proofs.YtehlmacgjlgjaaaGreatDoor
open Go.RowKit

set_option maxHeartbeats 1000000 in
set_option maxRecDepth 100000 in
theorem rtrimi_c (neg : Bool) (A : Option Addr) (c : Nat) (xs : List Nat) (w : World) (h : Rd w A c xs) (hs : xs.length ≤ 100000000) :
    Calls Tryz.prog 141 #[intV neg A xs.length c] w (IntR w (sg neg (val xs))) := by
  have hmk := fun w h => rmake_c neg A c xs w h hs
  have hB := Bi.new (w.alloc (.cells #[.bool neg, .slice A xs.length c] 64)) (.bool false) (.slice none 0 0)
  have hA := ((Ext.refl w).al (.cells #[.bool neg, .slice A xs.length c] 64)).al (.cells #[.bool false, .slice none 0 0] 64)
  rw [World.size_alloc] at hB
  have hsz := hB.lt
  have HB := Lib.hid hB
  have HA := Lib.hid hA
  generalize sg neg (val xs) = z at *
  clear hB hA
  go_enter Tryz.func141, Tryz.ntmps141
  go_wp2_with fail
  refine (hmk _ (h.ext HA.out)).mono ?_
  rintro e w1 ⟨A1, c1, rfl, ho, hb⟩
  have hB1 := HB.out.ext hb
  obtain ⟨b0, b1, bf⟩ := hB1.facts
  go_wp2
  have hB2 := hB1.put (.bool (decide (z < 0))) (.slice A1 (cn z.natAbs).length c1)
  obtain ⟨r0, r1, rf⟩ := hB2.facts
  refine bodyPost_ret (v := intV (decide (z < 0)) A1 (cn z.natAbs).length c1) (by simp [results, Tryz.results141, go_sem, r0, r1]) rfl ?_
  exact ⟨_, _, rfl, (ho.puti (g := w.heap.size + 1) hsz _ _).low HA.out.size, (HA.out.tr hb).puti (g := w.heap.size + 1) (by omega) _ _⟩
/-- The sign of an integer as a number. -/
def sgn (z : Int) : Int := if z < 0 then -1 else if 0 < z then 1 else 0
set_option maxHeartbeats 1000000 in
set_option maxRecDepth 100000 in
theorem rsign_c (neg : Bool) (A : Option Addr) (c : Nat) (xs : List Nat) (w : World) (h : Rd w A c xs) (hs : xs.length ≤ 100000000) :
    Calls Tryz.prog 114 #[intV neg A xs.length c] w fun e w' => e = .returned (.int .i64 (sgn (sg neg (val xs)))) ∧ Ext w w' := by
  have htr := fun w h => rtrimi_c neg A c xs w h hs
  have hB := Bi.new w (.bool neg) (.slice A xs.length c)
  have hA := (Ext.refl w).al (.cells #[.bool neg, .slice A xs.length c] 64)
  generalize sg neg (val xs) = z at *
  have HB := Lib.hid hB
  have HA := Lib.hid hA
  clear hB hA
  have hl : decide (0 < (cn z.natAbs).length) = decide (z ≠ 0) := by
    have hz := cn_len_zero z.natAbs
    by_cases h0 : z = 0
    · subst h0; rw [decide_eq_false (by simp [show cn 0 = [] from digs_zero B]), decide_eq_false (by simp)]
    · have : (cn z.natAbs).length ≠ 0 := fun h1 => h0 (by have := hz.1 h1; omega)
      rw [decide_eq_true (by omega), decide_eq_true h0]
  have hcase : (decide (z < 0) = true ∧ sgn z = -1) ∨ (decide (z < 0) = false ∧ decide (0 < (cn z.natAbs).length) = true ∧ sgn z = 1) ∨ (decide (z < 0) = false ∧ decide (0 < (cn z.natAbs).length) = false ∧ sgn z = 0) := by
    unfold sgn
    rw [hl]
    rcases Int.lt_trichotomy z 0 with h0 | h0 | h0
    · exact .inl ⟨decide_eq_true h0, if_pos h0⟩
    · subst h0; exact .inr (.inr ⟨by decide, by decide, by decide⟩)
    · exact .inr (.inl ⟨decide_eq_false (by omega), decide_eq_true (by omega), by rw [if_neg (by omega), if_pos h0]⟩)
  clear hl
  generalize sgn z = s at *
  unfold IntR at htr
  generalize decide (z < 0) = nb at *
  generalize cn z.natAbs = X at *
  obtain ⟨q, hq⟩ : ∃ q, decide (0 < X.length) = q := ⟨_, rfl⟩
  rw [hq] at hcase
  rcases hcase with ⟨rfl, rfl⟩ | ⟨rfl, rfl, rfl⟩ | ⟨rfl, rfl, rfl⟩
  all_goals
    go_enter Tryz.func114, Tryz.ntmps114
    go_wp2_with fail
    refine (htr _ (h.ext HA.out)).mono ?_
    rintro e w1 ⟨A1, c1, rfl, ho, hb⟩
    have hB1 := HB.out.ext hb
    obtain ⟨b0, b1, bf⟩ := hB1.facts
    have hE := HA.out.tr hb
    first
      | (have hB2 := hB1.put (.bool true) (.slice A1 X.length c1)
         obtain ⟨r0, r1, rf⟩ := hB2.facts
         go_wp2
         go_ret
         exact ⟨rfl, hE.puti (g := w.heap.size) (Nat.le_refl _) _ _⟩)
      | (have hB2 := hB1.put (.bool false) (.slice A1 X.length c1)
         obtain ⟨r0, r1, rf⟩ := hB2.facts
         go_wp2
         go_ret
         exact ⟨rfl, hE.puti (g := w.heap.size) (Nat.le_refl _) _ _⟩)
/-- The boxes of two integers and a result. -/
theorem boxesI (w : World) (n1 n2 : Bool) (v1 v2 : Value) : ∀ W, W = (((w.alloc (.cells #[.bool n1, v1] 64)).alloc (.cells #[.bool n2, v2] 64)).alloc (.cells #[.bool false, .slice none 0 0] 64)) →
    Bi W w.heap.size (.bool n1) v1 ∧ Bi W (w.heap.size + 1) (.bool n2) v2 ∧ Bi W (w.heap.size + 1 + 1) (.bool false) (.slice none 0 0) ∧ Ext w W := by
  rintro W rfl
  have h1 := (Ext.refl w).al (.cells #[.bool n1, v1] 64)
  have x2 := Bi.new (w.alloc (.cells #[.bool n1, v1] 64)) (.bool n2) v2
  have x3 := Bi.new ((w.alloc (.cells #[.bool n1, v1] 64)).alloc (.cells #[.bool n2, v2] 64)) (.bool false) (.slice none 0 0)
  rw [World.size_alloc] at x2
  rw [World.size_alloc, World.size_alloc] at x3
  exact ⟨((Bi.new w _ _).ext ((Ext.refl _).al _)).ext ((Ext.refl _).al _), x2.ext ((Ext.refl _).al _), x3, (h1.al _).al _⟩
theorem Bi.apart {w : World} {g g' : Nat} {a b : Value} (x : Bi w g a b) (hne : g ≠ g') (a' b' : Value) : Bi ((w.setCell ⟨g', 0, none⟩ a').setCell ⟨g', 1, none⟩ b') g a b := by
  refine ⟨?_⟩
  rw [Below.heap_setCell _ _ _ _ (by simpa using hne), Below.heap_setCell _ _ _ _ (by simpa using hne)]
  exact x.h
set_option maxHeartbeats 1000000 in
set_option maxRecDepth 100000 in
theorem rmake11_c (neg : Bool) (A : Option Addr) (c : Nat) (xs : List Nat) (w : World) (h : Rd w A c xs) (hs : xs.length ≤ 100000000) :
    Calls Tryz.prog 37 #[.bool neg, .slice A xs.length c] w (IntR w (sg neg (val xs))) := by
  have hmk := fun w h => rmake_c neg A c xs w h hs
  have hB := Bi.new w (.bool false) (.slice none 0 0)
  have hA := (Ext.refl w).al (.cells #[.bool false, .slice none 0 0] 64)
  have hsz := hB.lt
  have HB := Lib.hid hB
  have HA := Lib.hid hA
  generalize sg neg (val xs) = z at *
  clear hB hA
  go_enter Tryz.func37, Tryz.ntmps37
  go_wp2_with fail
  refine (hmk _ (h.ext HA.out)).mono ?_
  rintro e w1 ⟨A1, c1, rfl, ho, hb⟩
  have hB1 := HB.out.ext hb
  obtain ⟨b0, b1, bf⟩ := hB1.facts
  go_wp2
  have hB2 := hB1.put (.bool (decide (z < 0))) (.slice A1 (cn z.natAbs).length c1)
  obtain ⟨r0, r1, rf⟩ := hB2.facts
  refine bodyPost_ret (v := intV (decide (z < 0)) A1 (cn z.natAbs).length c1) (by simp [results, Tryz.results37, go_sem, r0, r1]) rfl ?_
  exact ⟨_, _, rfl, (ho.puti (g := w.heap.size) hsz _ _).low HA.out.size, (HA.out.tr hb).puti (g := w.heap.size) (Nat.le_refl _) _ _⟩
end Go.Proofs.YtehlmacgjlgjaaaGreatDoor
