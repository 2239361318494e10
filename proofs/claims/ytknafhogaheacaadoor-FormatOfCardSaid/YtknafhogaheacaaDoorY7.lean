/- the references' rational numbers: Norm, Is, at numbers without a common divisor. the references' Is, at integers and rational numbers that are what they are held against. the references' rational numbers: From(0, 1), Whole, and Rat of a float. -/
import Derived.Test.YtknafhogaheacaaDoorY4
import Derived.Test.YtknafhogaheacaaDoorT3
import Derived.Test.YtknafhogaheacaaDoorU2
import Derived.Test.YtknafhogaheacaaDoorS2
import Derived.Test.YtknafhogaheacaaDoorTB
set_option linter.unusedVariables false
set_option linter.unusedSimpArgs false
namespace Go.Proofs.YtknafhogaheacaaDoor
open Go.RowKit
attribute [local go_sem ↓] Go.wp_at_zero Go.wp_at_succ

/-- A rational number in new memory. -/
def RatN (w : World) (neg : Bool) (n d : Nat) (z : Ending) (w' : World) : Prop := ∃ v1 v2, z = .returned (ratV neg v1 v2) ∧ Own w' w.heap.size v1 (cn n) ∧ Own w' w.heap.size v2 (cn d) ∧ Ext w w'
theorem sg_sign {neg : Bool} {n : Nat} (h : neg = true → 0 < n) : decide (sg neg n < 0) = neg := by
  rw [sg_neg]
  cases neg
  · rfl
  · simp [h rfl]
/-- Make, at a sign that fits. -/
theorem rmk11 (neg : Bool) (n : Nat) (hn : neg = true → 0 < n) (hl : (cn n).length ≤ 100000000) (A : Option Addr) (c : Nat) (w : World) (h : Rd w A c (cn n)) :
    Calls Tryd.prog 45 #[.bool neg, .slice A (cn n).length c] w fun z w' => ∃ A1 c1, z = .returned (intV neg A1 (cn n).length c1) ∧ Own w' w.heap.size (.slice A1 (cn n).length c1) (cn n) ∧ Ext w w' := by
  have h1 := rmake11_c neg A c (cn n) w h hl
  unfold IntR at h1
  rw [val_cn, sg_abs, sg_sign hn] at h1
  exact h1
theorem rtrim03 (neg : Bool) (n : Nat) (hn : neg = true → 0 < n) (hl : (cn n).length ≤ 100000000) (A : Option Addr) (c : Nat) (w : World) (h : Rd w A c (cn n)) :
    Calls Tryd.prog 67 #[intV neg A (cn n).length c] w fun z w' => ∃ A1 c1, z = .returned (intV neg A1 (cn n).length c1) ∧ Own w' w.heap.size (.slice A1 (cn n).length c1) (cn n) ∧ Ext w w' := by
  have h1 := rtrimi_c neg A c (cn n) w h hl
  unfold IntR at h1
  rw [val_cn, sg_abs, sg_sign hn] at h1
  exact h1
theorem Bq.apartq {w : World} {g g' : Nat} {a b c : Value} (x : Bq w g a b c) (hne : g ≠ g') (a' b' c' : Value) : Bq (((w.setCell ⟨g', 0, none⟩ a').setCell ⟨g', 1, none⟩ b').setCell ⟨g', 2, none⟩ c') g a b c := by
  refine ⟨?_⟩
  rw [Below.heap_setCell _ _ _ _ (by simpa using hne), Below.heap_setCell _ _ _ _ (by simpa using hne), Below.heap_setCell _ _ _ _ (by simpa using hne)]
  exact x.h
theorem Own.putq {w : World} {base : Nat} {v : Value} {xs : List Nat} (h : Own w base v xs) {g : Nat} (hg : g < base) (a b c : Value) : Own (((w.setCell ⟨g, 0, none⟩ a).setCell ⟨g, 1, none⟩ b).setCell ⟨g, 2, none⟩ c) base v xs :=
  ((h.setBelow' (a := ⟨g, 0, none⟩) hg a).setBelow' (a := ⟨g, 1, none⟩) hg b).setBelow' (a := ⟨g, 2, none⟩) hg c
theorem boxesN (w : World) (neg : Bool) (v1 v2 : Value) : ∀ W, W = ((w.alloc (.cells #[.bool neg, v1, v2] 27)).alloc (.cells #[.bool false, .slice none 0 0, .slice none 0 0] 27)) →
    Bq W w.heap.size (.bool neg) v1 v2 ∧ Bq W (w.heap.size + 1) (.bool false) (.slice none 0 0) (.slice none 0 0) ∧ Ext w W := by
  rintro W rfl
  have h1 := (Ext.refl w).al (.cells #[.bool neg, v1, v2] 27)
  have x2 := Bq.new (w.alloc (.cells #[.bool neg, v1, v2] 27)) (.bool false) (.slice none 0 0) (.slice none 0 0)
  rw [World.size_alloc] at x2
  exact ⟨(Bq.new w _ _ _).ext ((Ext.refl _).al _), x2, h1.al _⟩
set_option maxHeartbeats 4000000 in
set_option maxRecDepth 100000 in
theorem rnorm_c (neg : Bool) (n d : Nat) (hn : neg = true → 0 < n) (hg : Nat.gcd n d = 1) (A1 A2 : Option Addr) (c1 c2 : Nat) (w : World) (h1 : Rd w A1 c1 (cn n)) (h2 : Rd w A2 c2 (cn d)) (hl1 : (cn n).length ≤ 10000000) (hl2 : (cn d).length ≤ 10000000) :
    Calls Tryd.prog 21 #[ratV neg (.slice A1 (cn n).length c1) (.slice A2 (cn d).length c2)] w (RatN w neg n d) := by
  obtain ⟨hQ, hY, hE⟩ := boxesN w neg (.slice A1 (cn n).length c1) (.slice A2 (cn d).length c2) _ rfl
  have hgc := fun w h h' => rgcd_c A1 A2 c1 c2 (cn n) (cn d) w h h' hl1 hl2
  rw [val_cn, val_cn, hg] at hgc
  have hd1 := fun A c w h h' => rdiv_c A1 A c1 c (cn n) (cn 1) w h h' (by rw [val_cn]; omega) hl1 (by rw [cn_one]; simp)
  have hd2 := fun A c w h h' => rdiv_c A2 A c2 c (cn d) (cn 1) w h h' (by rw [val_cn]; omega) hl2 (by rw [cn_one]; simp)
  simp only [val_cn, Nat.div_one] at hd1 hd2
  have hmk := fun A c w h => rmk11 neg n hn (by omega) A c w h
  have HQ := Lib.hid hQ
  have HY := Lib.hid hY
  have HE := Lib.hid hE
  clear hQ hY hE hl1 hl2 hg hn
  go_enter Tryd.func21, Tryd.ntmps21
  go_wp2_with fail
  have hQ := HQ.out
  have hE := HE.out
  generalize ((w.alloc (.cells #[.bool neg, .slice A1 (cn n).length c1, .slice A2 (cn d).length c2] 27)).alloc (.cells #[.bool false, .slice none 0 0, .slice none 0 0] 27)) = W at *
  refine (hgc _ (h1.ext hE) (h2.ext hE)).mono ?_
  rintro z w1 ⟨v, rfl, ho1, hb1⟩
  obtain ⟨A3, c3, rfl, hr3⟩ := ho1.rd
  have hE1 := hE.tr hb1
  have hQ1 := hQ.ext hb1
  have hY1 := HY.out.ext hb1
  obtain ⟨q0, q1, q2, -⟩ := hQ1.facts
  have hs0 := HY.out.lt
  have hs1 := hb1.size
  go_wp2_with fail
  go_region_held3 (fun w' => w'.cell? ⟨w.heap.size, 0, none⟩ = some (.bool neg) ∧ w'.cell? ⟨w.heap.size, 1, none⟩ = some (.slice A1 (cn n).length c1) ∧ w'.cell? ⟨w.heap.size, 2, none⟩ = some (.slice A2 (cn d).length c2))
    (first | go_keep | (go_split_ands; refine ⟨?_, ?_, ?_⟩ <;> first | assumption | (refine Ext.cell (w := w1) ?_ ?_ <;> assumption)))
    (first
      | (go_at_call 46; (with_reducible refine (hd1 A3 c3 _ ?hr ?hs).mono ?_); (case hr => first | exact (h1.ext hE1).drew | exact h1.ext (hE1.tr hE3)); (case hs => first | exact hr3.drew | exact hr3.ext hE3); rintro z w4 ⟨v, rfl, ho4, hb4⟩; obtain ⟨A4, c4, rfl, hr4⟩ := ho4.rd; have hE3 : Ext w1 w4 := (Ext.refl w1).drew.tr hb4)
      | (go_at_call 45; (with_reducible refine (hmk A4 c4 _ hr4).mono ?_); rintro z w5 ⟨A5, c5, rfl, ho5, hb5⟩; have hE5 : Ext w1 w5 := hE3.tr hb5)
      | (go_at_call 46; (with_reducible refine (hd2 A3 c3 _ (h2.ext (hE1.tr hE5)) (hr3.ext hE5)).mono ?_); rintro z w6 ⟨v, rfl, ho6, hb6⟩; obtain ⟨A6, c6, rfl, hr6⟩ := ho6.rd; have hE6 : Ext w1 w6 := hE5.tr hb6; have hX1 := hY1.ext hE6; obtain ⟨a0, a1, a2, af⟩ := hX1.facts; obtain ⟨i0, i1, i2, -⟩ := ((hQ1.ext hE6).apartq (g' := w.heap.size + 1) (by omega) (.bool neg) (.slice A5 (cn n).length c5) (.slice A6 (cn d).length c6)).facts))
  have hs4 := hE3.size
  have hs5 := hE5.size
  have hR := hX1.put (.bool neg) (.slice A5 (cn n).length c5) (.slice A6 (cn d).length c6)
  have qn := (((ho5.ext hb6).putq (g := w.heap.size + 1) (by omega) (.bool neg) (.slice A5 (cn n).length c5) (.slice A6 (cn d).length c6)).low (b := w.heap.size) (by omega))
  have qd := ((ho6.putq (g := w.heap.size + 1) (by omega) (.bool neg) (.slice A5 (cn n).length c5) (.slice A6 (cn d).length c6)).low (b := w.heap.size) (by omega))
  have qE := (hE1.tr hE6).putq (g := w.heap.size + 1) (by omega) (.bool neg) (.slice A5 (cn n).length c5) (.slice A6 (cn d).length c6)
  have HR := Lib.hid hR
  have QN := Lib.hid qn
  have QD := Lib.hid qd
  have QE := Lib.hid qE
  clear hR qn qd qE
  go_wp2
  obtain ⟨m0, m1, m2, -⟩ := HR.out.facts
  refine bodyPost_ret (v := ratV neg (.slice A5 (cn n).length c5) (.slice A6 (cn d).length c6)) (by simp [results, Tryd.results21, go_sem, m0, m1, m2]) rfl ?_
  exact ⟨_, _, rfl, QN.out, QD.out, QE.out⟩
end Go.Proofs.YtknafhogaheacaaDoor
namespace Go.Proofs.YtknafhogaheacaaDoor
open Go.RowKit
attribute [local go_sem ↓] Go.wp_at_zero Go.wp_at_succ

/-- Two integers' boxes. -/
theorem boxesI2 (w : World) (n1 n2 : Bool) (v1 v2 : Value) : ∀ W, W = ((w.alloc (.cells #[.bool n1, v1] 25)).alloc (.cells #[.bool n2, v2] 25)) →
    Bi W w.heap.size (.bool n1) v1 ∧ Bi W (w.heap.size + 1) (.bool n2) v2 ∧ Ext w W := by
  rintro W rfl
  have h1 := (Ext.refl w).al (.cells #[.bool n1, v1] 25)
  have x2 := Bi.new (w.alloc (.cells #[.bool n1, v1] 25)) (.bool n2) v2
  rw [World.size_alloc] at x2
  exact ⟨(Bi.new w _ _).ext ((Ext.refl _).al _), x2, h1.al _⟩
section
variable (neg : Bool) (n d : Nat) (hn : neg = true → 0 < n) (A1 A2 : Option Addr) (c1 c2 : Nat) (w : World)
end
end Go.Proofs.YtknafhogaheacaaDoor
namespace Go.Proofs.YtknafhogaheacaaDoor
open Go.RowKit
attribute [local go_sem ↓] Go.wp_at_zero Go.wp_at_succ

/-- An integer in new memory. -/
def IntN (w : World) (neg : Bool) (n : Nat) (z : Ending) (w' : World) : Prop := ∃ A1 c1, z = .returned (intV neg A1 (cn n).length c1) ∧ Own w' w.heap.size (.slice A1 (cn n).length c1) (cn n) ∧ Ext w w'
section
variable (neg : Bool) (n d : Nat) (hn : neg = true → 0 < n)
theorem boxesIQ (w : World) (neg : Bool) (v : Value) : ∀ W, W = ((w.alloc (.cells #[.bool neg, v] 25)).alloc (.cells #[.bool false, .slice none 0 0, .slice none 0 0] 27)) →
    Bi W w.heap.size (.bool neg) v ∧ Bq W (w.heap.size + 1) (.bool false) (.slice none 0 0) (.slice none 0 0) ∧ Ext w W := by
  rintro W rfl
  have h1 := (Ext.refl w).al (.cells #[.bool neg, v] 25)
  have x2 := Bq.new (w.alloc (.cells #[.bool neg, v] 25)) (.bool false) (.slice none 0 0) (.slice none 0 0)
  rw [World.size_alloc] at x2
  exact ⟨(Bi.new w _ _).ext ((Ext.refl _).al _), x2, h1.al _⟩
end
end Go.Proofs.YtknafhogaheacaaDoor
