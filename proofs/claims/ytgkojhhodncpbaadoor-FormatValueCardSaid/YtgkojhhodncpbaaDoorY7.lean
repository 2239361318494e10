/- the references' rational numbers: Norm, Is, at numbers without a common divisor. the references' Is, at integers and rational numbers that are what they are held against. the references' rational numbers: From(0, 1), Whole, and Rat of a float. -/
import Derived.Test.YtgkojhhodncpbaaDoorY4
import Derived.Test.YtgkojhhodncpbaaDoorT3
import Derived.Test.YtgkojhhodncpbaaDoorU2
import Derived.Test.YtgkojhhodncpbaaDoorS2
import Derived.Test.YtgkojhhodncpbaaDoorTB
set_option linter.unusedVariables false
set_option linter.unusedSimpArgs false
namespace Go.Proofs.YtgkojhhodncpbaaDoor
open Go.RowKit
attribute [local go_sem ↓] Go.wp_at_zero Go.wp_at_succ

/-- A rational number in new memory. -/
def RatN (w : World) (neg : Bool) (n d : Nat) (z : Ending) (w' : World) : Prop := ∃ v1 v2, z = .returned (ratV neg v1 v2) ∧ Own w' w.heap.size v1 (cn n) ∧ Own w' w.heap.size v2 (cn d) ∧ Ext w w'
theorem sg_sign {neg : Bool} {n : Nat} (h : neg = true → 0 < n) : decide (sg neg n < 0) = neg := by
  rw [sg_neg]
  cases neg
  · rfl
  · simp [h rfl]
/-- Make, at a sign that fits. -/
theorem rmk11 (neg : Bool) (n : Nat) (hn : neg = true → 0 < n) (hl : (cn n).length ≤ 100000000) (A : Option Addr) (c : Nat) (w : World) (h : Rd w A c (cn n)) :
    Calls Tryd.prog 76 #[.bool neg, .slice A (cn n).length c] w fun z w' => ∃ A1 c1, z = .returned (intV neg A1 (cn n).length c1) ∧ Own w' w.heap.size (.slice A1 (cn n).length c1) (cn n) ∧ Ext w w' := by
  have h1 := rmake11_c neg A c (cn n) w h hl
  unfold IntR at h1
  rw [val_cn, sg_abs, sg_sign hn] at h1
  exact h1
theorem rtrim03 (neg : Bool) (n : Nat) (hn : neg = true → 0 < n) (hl : (cn n).length ≤ 100000000) (A : Option Addr) (c : Nat) (w : World) (h : Rd w A c (cn n)) :
    Calls Tryd.prog 136 #[intV neg A (cn n).length c] w fun z w' => ∃ A1 c1, z = .returned (intV neg A1 (cn n).length c1) ∧ Own w' w.heap.size (.slice A1 (cn n).length c1) (cn n) ∧ Ext w w' := by
  have h1 := rtrimi_c neg A c (cn n) w h hl
  unfold IntR at h1
  rw [val_cn, sg_abs, sg_sign hn] at h1
  exact h1
theorem Bq.apartq {w : World} {g g' : Nat} {a b c : Value} (x : Bq w g a b c) (hne : g ≠ g') (a' b' c' : Value) : Bq (((w.setCell ⟨g', 0, none⟩ a').setCell ⟨g', 1, none⟩ b').setCell ⟨g', 2, none⟩ c') g a b c := by
  refine ⟨?_⟩
  rw [Below.heap_setCell _ _ _ _ (by simpa using hne), Below.heap_setCell _ _ _ _ (by simpa using hne), Below.heap_setCell _ _ _ _ (by simpa using hne)]
  exact x.h
theorem Own.putq {w : World} {base : Nat} {v : Value} {xs : List Nat} (h : Own w base v xs) {g : Nat} (hg : g < base) (a b c : Value) : Own (((w.setCell ⟨g, 0, none⟩ a).setCell ⟨g, 1, none⟩ b).setCell ⟨g, 2, none⟩ c) base v xs :=
  ((h.setBelow' (a := ⟨g, 0, none⟩) hg a).setBelow' (a := ⟨g, 1, none⟩) hg b).setBelow' (a := ⟨g, 2, none⟩) hg c
theorem boxesN (w : World) (neg : Bool) (v1 v2 : Value) : ∀ W, W = ((w.alloc (.cells #[.bool neg, v1, v2] 52)).alloc (.cells #[.bool false, .slice none 0 0, .slice none 0 0] 52)) →
    Bq W w.heap.size (.bool neg) v1 v2 ∧ Bq W (w.heap.size + 1) (.bool false) (.slice none 0 0) (.slice none 0 0) ∧ Ext w W := by
  rintro W rfl
  have h1 := (Ext.refl w).al (.cells #[.bool neg, v1, v2] 52)
  have x2 := Bq.new (w.alloc (.cells #[.bool neg, v1, v2] 52)) (.bool false) (.slice none 0 0) (.slice none 0 0)
  rw [World.size_alloc] at x2
  exact ⟨(Bq.new w _ _ _).ext ((Ext.refl _).al _), x2, h1.al _⟩
set_option maxHeartbeats 4000000 in
set_option maxRecDepth 100000 in
theorem rnorm_c (neg : Bool) (n d : Nat) (hn : neg = true → 0 < n) (hg : Nat.gcd n d = 1) (A1 A2 : Option Addr) (c1 c2 : Nat) (w : World) (h1 : Rd w A1 c1 (cn n)) (h2 : Rd w A2 c2 (cn d)) (hl1 : (cn n).length ≤ 10000000) (hl2 : (cn d).length ≤ 10000000) :
    Calls Tryd.prog 64 #[ratV neg (.slice A1 (cn n).length c1) (.slice A2 (cn d).length c2)] w (RatN w neg n d) := by
  obtain ⟨hQ, hY, hE⟩ := boxesN w neg (.slice A1 (cn n).length c1) (.slice A2 (cn d).length c2) _ rfl
  have hgc := fun w h h' => rgcd_c A1 A2 c1 c2 (cn n) (cn d) w h h' hl1 hl2
  rw [val_cn, val_cn, hg] at hgc
  have hd1 := fun A c w h h' => rdiv_c A1 A c1 c (cn n) (cn 1) w h h' (by rw [val_cn]; omega) hl1 (by rw [cn_one]; simp)
  have hd2 := fun A c w h h' => rdiv_c A2 A c2 c (cn d) (cn 1) w h h' (by rw [val_cn]; omega) hl2 (by rw [cn_one]; simp)
  simp only [val_cn, Nat.div_one] at hd1 hd2
  have hmk := fun A c w h => rmk11 neg n hn (by omega) A c w h
  have HQ := Lib.hid hQ
  have HY := Lib.hid hY
  have HE := Lib.hid hE
  clear hQ hY hE hl1 hl2 hg hn
  go_enter Tryd.func64, Tryd.ntmps64
  go_wp2_with fail
  have hQ := HQ.out
  have hE := HE.out
  generalize ((w.alloc (.cells #[.bool neg, .slice A1 (cn n).length c1, .slice A2 (cn d).length c2] 52)).alloc (.cells #[.bool false, .slice none 0 0, .slice none 0 0] 52)) = W at *
  refine (hgc _ (h1.ext hE) (h2.ext hE)).mono ?_
  rintro z w1 ⟨v, rfl, ho1, hb1⟩
  obtain ⟨A3, c3, rfl, hr3⟩ := ho1.rd
  have hE1 := hE.tr hb1
  have hQ1 := hQ.ext hb1
  have hY1 := HY.out.ext hb1
  obtain ⟨q0, q1, q2, -⟩ := hQ1.facts
  have hs0 := HY.out.lt
  have hs1 := hb1.size
  go_wp2_with fail
  go_region_held3 (fun w' => w'.cell? ⟨w.heap.size, 0, none⟩ = some (.bool neg) ∧ w'.cell? ⟨w.heap.size, 1, none⟩ = some (.slice A1 (cn n).length c1) ∧ w'.cell? ⟨w.heap.size, 2, none⟩ = some (.slice A2 (cn d).length c2))
    (first | go_keep | (go_split_ands; refine ⟨?_, ?_, ?_⟩ <;> first | assumption | (refine Ext.cell (w := w1) ?_ ?_ <;> assumption)))
    (first
      | (go_at_call 106; (with_reducible refine (hd1 A3 c3 _ ?hr ?hs).mono ?_); (case hr => first | exact (h1.ext hE1).drew | exact h1.ext (hE1.tr hE3)); (case hs => first | exact hr3.drew | exact hr3.ext hE3); rintro z w4 ⟨v, rfl, ho4, hb4⟩; obtain ⟨A4, c4, rfl, hr4⟩ := ho4.rd; have hE3 : Ext w1 w4 := (Ext.refl w1).drew.tr hb4)
      | (go_at_call 76; (with_reducible refine (hmk A4 c4 _ hr4).mono ?_); rintro z w5 ⟨A5, c5, rfl, ho5, hb5⟩; have hE5 : Ext w1 w5 := hE3.tr hb5)
      | (go_at_call 106; (with_reducible refine (hd2 A3 c3 _ (h2.ext (hE1.tr hE5)) (hr3.ext hE5)).mono ?_); rintro z w6 ⟨v, rfl, ho6, hb6⟩; obtain ⟨A6, c6, rfl, hr6⟩ := ho6.rd; have hE6 : Ext w1 w6 := hE5.tr hb6; have hX1 := hY1.ext hE6; obtain ⟨a0, a1, a2, af⟩ := hX1.facts; obtain ⟨i0, i1, i2, -⟩ := ((hQ1.ext hE6).apartq (g' := w.heap.size + 1) (by omega) (.bool neg) (.slice A5 (cn n).length c5) (.slice A6 (cn d).length c6)).facts))
  have hs4 := hE3.size
  have hs5 := hE5.size
  have hR := hX1.put (.bool neg) (.slice A5 (cn n).length c5) (.slice A6 (cn d).length c6)
  have qn := (((ho5.ext hb6).putq (g := w.heap.size + 1) (by omega) (.bool neg) (.slice A5 (cn n).length c5) (.slice A6 (cn d).length c6)).low (b := w.heap.size) (by omega))
  have qd := ((ho6.putq (g := w.heap.size + 1) (by omega) (.bool neg) (.slice A5 (cn n).length c5) (.slice A6 (cn d).length c6)).low (b := w.heap.size) (by omega))
  have qE := (hE1.tr hE6).putq (g := w.heap.size + 1) (by omega) (.bool neg) (.slice A5 (cn n).length c5) (.slice A6 (cn d).length c6)
  have HR := Lib.hid hR
  have QN := Lib.hid qn
  have QD := Lib.hid qd
  have QE := Lib.hid qE
  clear hR qn qd qE
  go_wp2
  obtain ⟨m0, m1, m2, -⟩ := HR.out.facts
  refine bodyPost_ret (v := ratV neg (.slice A5 (cn n).length c5) (.slice A6 (cn d).length c6)) (by simp [results, Tryd.results64, go_sem, m0, m1, m2]) rfl ?_
  exact ⟨_, _, rfl, QN.out, QD.out, QE.out⟩
end Go.Proofs.YtgkojhhodncpbaaDoor
namespace Go.Proofs.YtgkojhhodncpbaaDoor
open Go.RowKit
attribute [local go_sem ↓] Go.wp_at_zero Go.wp_at_succ

/-- Two integers' boxes. -/
theorem boxesI2 (w : World) (n1 n2 : Bool) (v1 v2 : Value) : ∀ W, W = ((w.alloc (.cells #[.bool n1, v1] 50)).alloc (.cells #[.bool n2, v2] 50)) →
    Bi W w.heap.size (.bool n1) v1 ∧ Bi W (w.heap.size + 1) (.bool n2) v2 ∧ Ext w W := by
  rintro W rfl
  have h1 := (Ext.refl w).al (.cells #[.bool n1, v1] 50)
  have x2 := Bi.new (w.alloc (.cells #[.bool n1, v1] 50)) (.bool n2) v2
  rw [World.size_alloc] at x2
  exact ⟨(Bi.new w _ _).ext ((Ext.refl _).al _), x2, h1.al _⟩
section
variable (neg : Bool) (n d : Nat) (hn : neg = true → 0 < n) (A1 A2 : Option Addr) (c1 c2 : Nat) (w : World)
set_option maxHeartbeats 4000000 in
set_option maxRecDepth 100000 in
include hn in
theorem ris03_c (hl : (cn n).length ≤ 10000000) (h1 : Rd w A1 c1 (cn n)) (h2 : Rd w A2 c2 (cn n)) :
    Calls Tryd.prog 107 #[intV neg A1 (cn n).length c1, intV neg A2 (cn n).length c2] w fun z w' => z = .returned (.bool true) ∧ Ext w w' := by
  obtain ⟨hX, hY, hE⟩ := boxesI2 w neg neg (.slice A1 (cn n).length c1) (.slice A2 (cn n).length c2) _ rfl
  have his := fun w h1 h2 => ris_c A1 A2 c1 c2 (cn n) (cn n) w h1 h2 hl
  rw [val_cn, show decide (cn n = cn n) = true by simp] at his
  have htr : ∀ w, Rd w A2 c2 (cn n) → Calls Tryd.prog 136 #[intV neg A2 (cn n).length c2] w fun z w' => ∃ A1 c1, z = .returned (.agg #[.bool neg, .slice A1 (cn n).length c1]) ∧ Own w' w.heap.size (.slice A1 (cn n).length c1) (cn n) ∧ Ext w w' := fun w h => rtrim03 neg n hn (by omega) A2 c2 w h
  have HX := Lib.hid hX
  have HY := Lib.hid hY
  have HE := Lib.hid hE
  clear hX hY hE hl hn
  generalize cn n = X at *
  have hbb : (neg == neg) = true := by simp
  have hfd : ∀ (b : Bool) (A : Option Addr) (m c : Nat) (w : World), (Instr.field 50 (.agg #[.bool b, .slice A m c]) 0).run Tryd.prog w = .ok (.bool b) w := fun b A m c w => by kernel_rfl
  go_enter Tryd.func107, Tryd.ntmps107
  go_wp2_with fail
  have hX := HX.out
  have hY := HY.out
  have hE := HE.out
  generalize ((w.alloc (.cells #[.bool neg, .slice A1 X.length c1] 50)).alloc (.cells #[.bool neg, .slice A2 X.length c2] 50)) = W at *
  obtain ⟨x0, x1, -⟩ := hX.facts
  obtain ⟨y0, y1, -⟩ := hY.facts
  go_region_held3 (fun w' => w'.cell? ⟨w.heap.size, 0, none⟩ = some (.bool neg) ∧ w'.cell? ⟨w.heap.size, 1, none⟩ = some (.slice A1 X.length c1) ∧ w'.cell? ⟨w.heap.size + 1, 0, none⟩ = some (.bool neg) ∧ w'.cell? ⟨w.heap.size + 1, 1, none⟩ = some (.slice A2 X.length c2))
    (first | go_keep | (go_split_ands; refine ⟨?_, ?_, ?_, ?_⟩ <;> first | assumption | (refine Ext.cell (w := W) ?_ ?_ <;> assumption)))
    (first
      | (go_at_call 66; (with_reducible refine (his _ (h1.ext hE).drew (h2.ext hE).drew).mono ?_); rintro e w3 ⟨rfl, hb3⟩; have hE3 : Ext W w3 := (Ext.refl W).drew.tr hb3)
      | (go_at_call 136; (with_reducible refine (htr _ (h2.ext (hE.tr hE3))).mono ?_); rintro e w4 ⟨A4, c4, rfl, ho4, hb4⟩; have hE4 : Ext W w4 := hE3.tr hb4))
  go_wp2
  go_ret
  exact ⟨rfl, hE.tr hE4⟩
set_option maxHeartbeats 1000000 in
set_option maxRecDepth 100000 in
include hn in
theorem ris11_c (hl : (cn n).length ≤ 10000000) (h1 : Rd w A1 c1 (cn n)) (h2 : Rd w A2 c2 (cn n)) :
    Calls Tryd.prog 65 #[intV neg A1 (cn n).length c1, intV neg A2 (cn n).length c2] w fun z w' => z = .returned (.bool true) ∧ Ext w w' := by
  obtain ⟨hX, hY, hE⟩ := boxesI2 w neg neg (.slice A1 (cn n).length c1) (.slice A2 (cn n).length c2) _ rfl
  have his := fun w h1 h2 => ris03_c neg n hn A1 A2 c1 c2 w hl h1 h2
  have HE := Lib.hid hE
  clear hX hY hE hl hn
  generalize cn n = X at *
  go_enter Tryd.func65, Tryd.ntmps65
  go_wp2_with fail
  refine (his _ (h1.ext HE.out) (h2.ext HE.out)).mono ?_
  rintro z w1 ⟨rfl, hb1⟩
  go_wp2
  go_ret
  exact ⟨rfl, HE.out.tr hb1⟩
set_option maxHeartbeats 2000000 in
set_option maxRecDepth 100000 in
include hn in
theorem ris12_c (hg : Nat.gcd n d = 1) (B1 B2 : Option Addr) (e1 e2 : Nat) (hl1 : (cn n).length ≤ 10000000) (hl2 : (cn d).length ≤ 10000000) (h1 : Rd w A1 c1 (cn n)) (h2 : Rd w A2 c2 (cn n)) (k1 : Rd w B1 e1 (cn d)) (k2 : Rd w B2 e2 (cn d)) :
    Calls Tryd.prog 31 #[ratV neg (.slice A1 (cn n).length c1) (.slice B1 (cn d).length e1), ratV neg (.slice A2 (cn n).length c2) (.slice B2 (cn d).length e2)] w fun z w' => z = .returned (.bool true) ∧ Ext w w' := by
  have hX := Bq.new w (.bool neg) (.slice A1 (cn n).length c1) (.slice B1 (cn d).length e1)
  have hA := ((Ext.refl w).al (.cells #[.bool neg, .slice A1 (cn n).length c1, .slice B1 (cn d).length e1] 52)).al (.cells #[.bool neg, .slice A2 (cn n).length c2, .slice B2 (cn d).length e2] 52)
  replace hX := hX.ext ((Ext.refl _).al (.cells #[.bool neg, .slice A2 (cn n).length c2, .slice B2 (cn d).length e2] 52))
  have hnm := fun w h h' => rnorm_c neg n d hn hg A2 B2 c2 e2 w h h' hl1 hl2
  have hii := fun A c w h h' => ris11_c neg n hn A1 A c1 c w hl1 h h'
  have his := fun B e w h1 h2 => ris_c B1 B e1 e (cn d) (cn d) w h1 h2 hl2
  simp only [val_cn, show decide (cn d = cn d) = true by simp] at his
  have HX := Lib.hid hX
  have HA := Lib.hid hA
  clear hX hA hl1 hl2 hg hn
  go_enter Tryd.func31, Tryd.ntmps31
  go_wp2_with fail
  have hX := HX.out
  have hE := HA.out
  clear HX HA
  generalize ((w.alloc (.cells #[.bool neg, .slice A1 (cn n).length c1, .slice B1 (cn d).length e1] 52)).alloc (.cells #[.bool neg, .slice A2 (cn n).length c2, .slice B2 (cn d).length e2] 52)) = W at *
  refine (hnm _ (h2.ext hE) (k2.ext hE)).mono ?_
  rintro z w1 ⟨v1, v2, rfl, ho1, ho2, hb1⟩
  obtain ⟨A3, c3, rfl, hr3⟩ := ho1.rd
  obtain ⟨B3, e3, rfl, hr4⟩ := ho2.rd
  have hZ := Bq.new w1 (.bool neg) (.slice A3 (cn n).length c3) (.slice B3 (cn d).length e3)
  have hA2 := (Ext.refl w1).al (.cells #[.bool neg, .slice A3 (cn n).length c3, .slice B3 (cn d).length e3] 52)
  have hE2 := (hE.tr hb1).tr hA2
  have hX1 := hX.ext hb1
  have hlx := hX1.lt
  obtain ⟨x0, x1, x2, -⟩ := hX1.facts
  go_wp2_with fail
  have hX2 := hX1.ext hA2
  replace hr3 := hr3.ext hA2
  replace hr4 := hr4.ext hA2
  generalize w1.alloc (.cells #[.bool neg, .slice A3 (cn n).length c3, .slice B3 (cn d).length e3] 52) = V at *
  refine (hii A3 c3 _ (h1.ext hE2) hr3).mono ?_
  rintro z w3 ⟨rfl, hb3⟩
  clear x0 x1 x2 hlx
  obtain ⟨x0, x1, x2, -⟩ := (hX2.ext hb3).facts
  obtain ⟨z0, z1, z2, -⟩ := (hZ.ext hb3).facts
  go_wp2_with fail
  refine (his B3 e3 _ (k1.ext (hE2.tr hb3)) (hr4.ext hb3)).mono ?_
  rintro z w4 ⟨rfl, hb4⟩
  go_wp2
  go_ret
  exact ⟨rfl, (hE2.tr hb3).tr hb4⟩
end
end Go.Proofs.YtgkojhhodncpbaaDoor
namespace Go.Proofs.YtgkojhhodncpbaaDoor
open Go.RowKit
attribute [local go_sem ↓] Go.wp_at_zero Go.wp_at_succ

/-- An integer in new memory. -/
def IntN (w : World) (neg : Bool) (n : Nat) (z : Ending) (w' : World) : Prop := ∃ A1 c1, z = .returned (intV neg A1 (cn n).length c1) ∧ Own w' w.heap.size (.slice A1 (cn n).length c1) (cn n) ∧ Ext w w'
set_option maxHeartbeats 1000000 in
set_option maxRecDepth 100000 in
theorem rfrom03_zero (w : World) : Calls Tryd.prog 148 #[.int .i64 0] w (IntN w false 0) := by
  have hfw := fun w => rfrom_c 0 w (by decide +kernel)
  have hmk : ∀ A c w, Rd w A c (cn 0) → Calls Tryd.prog 115 #[.bool false, .slice A (cn 0).length c] w (IntN w false 0) := fun A c w h => by
    have h1 := rmake_c false A c (cn 0) w h (by rw [show cn 0 = [] from digs_zero B]; simp)
    unfold IntR at h1
    rw [val_cn, sg_abs, sg_sign (by simp)] at h1
    exact h1
  have hB := Bi.new w (.bool false) (.slice none 0 0)
  have hA := (Ext.refl w).al (.cells #[.bool false, .slice none 0 0] 50)
  generalize hX : cn 0 = X at *
  have HB := Lib.hid hB
  have HA := Lib.hid hA
  have HX := Lib.hid hX
  clear hB hA hX
  go_enter Tryd.func148, Tryd.ntmps148
  go_wp2_with fail
  refine (hfw _).mono ?_
  rintro z w1 ⟨v, rfl, ho1, hb1⟩
  obtain ⟨A1, c1, rfl, hr1⟩ := ho1.rd
  go_wp2_with fail
  refine (hmk _ _ _ hr1).mono ?_
  rintro z w2 ⟨A2, c2, rfl, ho2, hb2⟩
  rw [HX.out] at ho2 ⊢
  have hE := (HA.out.tr hb1).tr hb2
  have hB2 := HB.out.ext (hb1.tr hb2)
  have hlt := HB.out.lt
  have hs1 := hb1.size
  obtain ⟨b0, b1, bf⟩ := hB2.facts
  have hR := hB2.put (.bool false) (.slice A2 X.length c2)
  have ho3 := (ho2.puti (g := w.heap.size) (by omega) (.bool false) (.slice A2 X.length c2)).low (b := w.heap.size) (by omega)
  have hE3 := hE.puti (g := w.heap.size) (Nat.le_refl _) (.bool false) (.slice A2 X.length c2)
  have HR := Lib.hid hR
  have HO := Lib.hid ho3
  have HE := Lib.hid hE3
  clear hR ho3 hE3
  go_wp2
  obtain ⟨r0, r1, -⟩ := HR.out.facts
  refine bodyPost_ret (v := intV false A2 X.length c2) (by simp [results, Tryd.results148, go_sem, r0, r1]) rfl ?_
  exact ⟨A2, c2, by rw [HX.out], by rw [HX.out]; exact HO.out, HE.out⟩
set_option maxHeartbeats 1000000 in
set_option maxRecDepth 100000 in
theorem rfrom11_zero (w : World) : Calls Tryd.prog 132 #[.int .i64 0] w (IntN w false 0) := by
  have hfw := fun w => rfrom03_zero w
  have hB := Bi.new w (.bool false) (.slice none 0 0)
  have hA := (Ext.refl w).al (.cells #[.bool false, .slice none 0 0] 50)
  have HB := Lib.hid hB
  have HA := Lib.hid hA
  clear hB hA
  go_enter Tryd.func132, Tryd.ntmps132
  go_wp2_with fail
  refine (hfw _).mono ?_
  rintro z w2 ⟨A2, c2, rfl, ho2, hb2⟩
  have hE := HA.out.tr hb2
  have hB2 := HB.out.ext hb2
  have hlt := HB.out.lt
  obtain ⟨b0, b1, bf⟩ := hB2.facts
  have hR := hB2.put (.bool false) (.slice A2 (cn 0).length c2)
  have ho3 := (ho2.puti (g := w.heap.size) (by omega) (.bool false) (.slice A2 (cn 0).length c2)).low (b := w.heap.size) (by omega)
  have hE3 := hE.puti (g := w.heap.size) (Nat.le_refl _) (.bool false) (.slice A2 (cn 0).length c2)
  have HR := Lib.hid hR
  have HO := Lib.hid ho3
  have HE := Lib.hid hE3
  clear hR ho3 hE3
  go_wp2
  obtain ⟨r0, r1, -⟩ := HR.out.facts
  refine bodyPost_ret (v := intV false A2 (cn 0).length c2) (by simp [results, Tryd.results132, go_sem, r0, r1]) rfl ?_
  exact ⟨A2, c2, rfl, HO.out, HE.out⟩
section
variable (neg : Bool) (n d : Nat) (hn : neg = true → 0 < n)
set_option maxHeartbeats 1000000 in
set_option maxRecDepth 100000 in
include hn in
theorem rtrim11 (hl : (cn n).length ≤ 100000000) (A : Option Addr) (c : Nat) (w : World) (h : Rd w A c (cn n)) : Calls Tryd.prog 133 #[intV neg A (cn n).length c] w (IntN w neg n) := by
  have hfw := fun w h => rtrim03 neg n hn hl A c w h
  have hB := Bi.new (w.alloc (.cells #[.bool neg, .slice A (cn n).length c] 50)) (.bool false) (.slice none 0 0)
  have hA := ((Ext.refl w).al (.cells #[.bool neg, .slice A (cn n).length c] 50)).al (.cells #[.bool false, .slice none 0 0] 50)
  rw [World.size_alloc] at hB
  have HB := Lib.hid hB
  have HA := Lib.hid hA
  clear hB hA hl hn
  go_enter Tryd.func133, Tryd.ntmps133
  go_wp2_with fail
  refine (hfw _ (h.ext HA.out)).mono ?_
  rintro z w2 ⟨A2, c2, rfl, ho2, hb2⟩
  have hE := HA.out.tr hb2
  have hB2 := HB.out.ext hb2
  have hlt := HB.out.lt
  have hs0 := HA.out.size
  obtain ⟨b0, b1, bf⟩ := hB2.facts
  have hR := hB2.put (.bool neg) (.slice A2 (cn n).length c2)
  have ho3 := (ho2.puti (g := w.heap.size + 1) hlt (.bool neg) (.slice A2 (cn n).length c2)).low (b := w.heap.size) hs0
  have hE3 := hE.puti (g := w.heap.size + 1) (by omega) (.bool neg) (.slice A2 (cn n).length c2)
  have HR := Lib.hid hR
  have HO := Lib.hid ho3
  have HE := Lib.hid hE3
  clear hR ho3 hE3
  go_wp2
  obtain ⟨r0, r1, -⟩ := HR.out.facts
  refine bodyPost_ret (v := intV neg A2 (cn n).length c2) (by simp [results, Tryd.results133, go_sem, r0, r1]) rfl ?_
  exact ⟨A2, c2, rfl, HO.out, HE.out⟩
theorem boxesIQ (w : World) (neg : Bool) (v : Value) : ∀ W, W = ((w.alloc (.cells #[.bool neg, v] 50)).alloc (.cells #[.bool false, .slice none 0 0, .slice none 0 0] 52)) →
    Bi W w.heap.size (.bool neg) v ∧ Bq W (w.heap.size + 1) (.bool false) (.slice none 0 0) (.slice none 0 0) ∧ Ext w W := by
  rintro W rfl
  have h1 := (Ext.refl w).al (.cells #[.bool neg, v] 50)
  have x2 := Bq.new (w.alloc (.cells #[.bool neg, v] 50)) (.bool false) (.slice none 0 0) (.slice none 0 0)
  rw [World.size_alloc] at x2
  exact ⟨(Bi.new w _ _).ext ((Ext.refl _).al _), x2, h1.al _⟩
set_option maxHeartbeats 2000000 in
set_option maxRecDepth 100000 in
include hn in
theorem rmake12_c (hg : Nat.gcd n d = 1) (hl1 : (cn n).length ≤ 10000000) (hl2 : (cn d).length ≤ 10000000) (A1 A2 : Option Addr) (c1 c2 : Nat) (w : World) (h1 : Rd w A1 c1 (cn n)) (h2 : Rd w A2 c2 (cn d)) :
    Calls Tryd.prog 131 #[intV neg A1 (cn n).length c1, .slice A2 (cn d).length c2] w (RatN w neg n d) := by
  obtain ⟨hX, hY, hE⟩ := boxesIQ w neg (.slice A1 (cn n).length c1) _ rfl
  have hnm := fun w h h' => rnorm_c neg n d hn hg A1 A2 c1 c2 w h h' hl1 hl2
  have HY := Lib.hid hY
  have HE := Lib.hid hE
  clear hX hY hE hl1 hl2 hg hn
  go_enter Tryd.func131, Tryd.ntmps131
  go_wp2_with fail
  have hE := HE.out
  refine (hnm _ (h1.ext hE) (h2.ext hE)).mono ?_
  rintro z w1 ⟨v1, v2, rfl, ho1, ho2, hb1⟩
  obtain ⟨A3, c3, rfl, -⟩ := ho1.rd
  obtain ⟨B3, e3, rfl, -⟩ := ho2.rd
  have hY1 := HY.out.ext hb1
  have hlt := HY.out.lt
  have hs0 := hE.size
  obtain ⟨b0, b1, b2, bf⟩ := hY1.facts
  have hR := hY1.put (.bool neg) (.slice A3 (cn n).length c3) (.slice B3 (cn d).length e3)
  have qn := (ho1.putq (g := w.heap.size + 1) hlt (.bool neg) (.slice A3 (cn n).length c3) (.slice B3 (cn d).length e3)).low (b := w.heap.size) hs0
  have qd := (ho2.putq (g := w.heap.size + 1) hlt (.bool neg) (.slice A3 (cn n).length c3) (.slice B3 (cn d).length e3)).low (b := w.heap.size) hs0
  have qE := (hE.tr hb1).putq (g := w.heap.size + 1) (by omega) (.bool neg) (.slice A3 (cn n).length c3) (.slice B3 (cn d).length e3)
  have HR := Lib.hid hR
  have QN := Lib.hid qn
  have QD := Lib.hid qd
  have QE := Lib.hid qE
  clear hR qn qd qE
  go_wp2
  obtain ⟨m0, m1, m2, -⟩ := HR.out.facts
  refine bodyPost_ret (v := ratV neg (.slice A3 (cn n).length c3) (.slice B3 (cn d).length e3)) (by simp [results, Tryd.results131, go_sem, m0, m1, m2]) rfl ?_
  exact ⟨_, _, rfl, QN.out, QD.out, QE.out⟩
set_option maxHeartbeats 2000000 in
set_option maxRecDepth 100000 in
include hn in
theorem rwhole_c (hl1 : (cn n).length ≤ 10000000) (A1 : Option Addr) (c1 : Nat) (w : World) (h1 : Rd w A1 c1 (cn n)) :
    Calls Tryd.prog 104 #[intV neg A1 (cn n).length c1] w (RatN w neg n 1) := by
  obtain ⟨hX, hY, hE⟩ := boxesIQ w neg (.slice A1 (cn n).length c1) _ rfl
  have htr := fun w h => rtrim11 neg n hn (by omega) A1 c1 w h
  have hfw := fun w => rfrom_c 1 w (by decide +kernel)
  have HX := Lib.hid hX
  have HY := Lib.hid hY
  have HE := Lib.hid hE
  clear hX hY hE hl1 hn
  go_enter Tryd.func104, Tryd.ntmps104
  go_wp2_with fail
  have hE := HE.out
  refine (htr _ (h1.ext hE)).mono ?_
  rintro z w1 ⟨A3, c3, rfl, ho1, hb1⟩
  go_wp2_with fail
  refine (hfw _).mono ?_
  rintro z w2 ⟨v, rfl, ho2, hb2⟩
  obtain ⟨B3, e3, rfl, -⟩ := ho2.rd
  have hY1 := HY.out.ext (hb1.tr hb2)
  have hlt := HY.out.lt
  have hs0 := hE.size
  have hs1 := hb1.size
  obtain ⟨b0, b1, b2, bf⟩ := hY1.facts
  have hR := hY1.put (.bool neg) (.slice A3 (cn n).length c3) (.slice B3 (cn 1).length e3)
  have qn := ((ho1.ext hb2).putq (g := w.heap.size + 1) hlt (.bool neg) (.slice A3 (cn n).length c3) (.slice B3 (cn 1).length e3)).low (b := w.heap.size) hs0
  have qd := (ho2.putq (g := w.heap.size + 1) (by omega) (.bool neg) (.slice A3 (cn n).length c3) (.slice B3 (cn 1).length e3)).low (b := w.heap.size) (by omega)
  have qE := (hE.tr (hb1.tr hb2)).putq (g := w.heap.size + 1) (by omega) (.bool neg) (.slice A3 (cn n).length c3) (.slice B3 (cn 1).length e3)
  have HR := Lib.hid hR
  have QN := Lib.hid qn
  have QD := Lib.hid qd
  have QE := Lib.hid qE
  clear hR qn qd qE
  go_wp2
  obtain ⟨m0, m1, m2, -⟩ := HR.out.facts
  refine bodyPost_ret (v := ratV neg (.slice A3 (cn n).length c3) (.slice B3 (cn 1).length e3)) (by simp [results, Tryd.results104, go_sem, m0, m1, m2]) rfl ?_
  exact ⟨_, _, rfl, QN.out, QD.out, QE.out⟩
end
set_option maxHeartbeats 2000000 in
set_option maxRecDepth 100000 in
theorem rfrom12_zero (w : World) : Calls Tryd.prog 103 #[.int .i64 0, .int .i64 1] w (RatN w false 0 1) := by
  have hY := Bq.new w (.bool false) (.slice none 0 0) (.slice none 0 0)
  have hE := (Ext.refl w).al (.cells #[.bool false, .slice none 0 0, .slice none 0 0] 52)
  have hz := fun w => rfrom11_zero w
  have hfw := fun w => rfrom_c 1 w (by decide +kernel)
  have hmk := fun A1 A2 c1 c2 w h h' => rmake12_c false 0 1 (by simp) (by decide) (by rw [show cn 0 = [] from digs_zero B]; simp) (by rw [cn_one]; simp) A1 A2 c1 c2 w h h'
  have HY := Lib.hid hY
  have HE := Lib.hid hE
  clear hY hE
  generalize hn0 : cn 0 = ns at *
  have HN0 := Lib.hid hn0
  clear hn0
  go_enter Tryd.func103, Tryd.ntmps103
  go_wp2_with fail
  refine (hz _).mono ?_
  rintro z w1 ⟨A1, c1, rfl, ho1, hb1⟩
  rw [HN0.out] at ho1 ⊢
  go_wp2_with fail
  refine (hfw _).mono ?_
  rintro z w2 ⟨v, rfl, ho2, hb2⟩
  obtain ⟨A2, c2, rfl, hr2⟩ := ho2.rd
  go_wp2_with fail
  refine (hmk _ _ _ _ _ (ho1.rdAt.2.ext hb2) hr2).mono ?_
  rintro z w3 ⟨v1, v2, rfl, ho3, ho4, hb3⟩
  rw [HN0.out] at ho3
  obtain ⟨A3, c3, rfl, -⟩ := ho3.rd
  obtain ⟨B3, e3, rfl, -⟩ := ho4.rd
  have hEE := (hb1.tr hb2).tr hb3
  have hY1 := HY.out.ext hEE
  have hlt := HY.out.lt
  have hs1 := (hb1.tr hb2).size
  obtain ⟨b0, b1, b2, bf⟩ := hY1.facts
  have hR := hY1.put (.bool false) (.slice A3 ns.length c3) (.slice B3 (cn 1).length e3)
  have qn := (ho3.putq (g := w.heap.size) (by omega) (.bool false) (.slice A3 ns.length c3) (.slice B3 (cn 1).length e3)).low (b := w.heap.size) (by omega)
  have qd := (ho4.putq (g := w.heap.size) (by omega) (.bool false) (.slice A3 ns.length c3) (.slice B3 (cn 1).length e3)).low (b := w.heap.size) (by omega)
  have qE := (HE.out.tr hEE).putq (g := w.heap.size) (Nat.le_refl _) (.bool false) (.slice A3 ns.length c3) (.slice B3 (cn 1).length e3)
  have HR := Lib.hid hR
  have QN := Lib.hid qn
  have QD := Lib.hid qd
  have QE := Lib.hid qE
  clear hR qn qd qE
  go_wp2
  obtain ⟨m0, m1, m2, -⟩ := HR.out.facts
  refine bodyPost_ret (v := ratV false (.slice A3 ns.length c3) (.slice B3 (cn 1).length e3)) (by simp [results, Tryd.results103, go_sem, m0, m1, m2]) rfl ?_
  exact ⟨_, _, rfl, by rw [HN0.out]; exact QN.out, QD.out, QE.out⟩
end Go.Proofs.YtgkojhhodncpbaaDoor
