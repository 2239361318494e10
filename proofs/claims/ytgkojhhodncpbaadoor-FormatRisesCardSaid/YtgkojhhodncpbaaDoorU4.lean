/- The references 03, 11: Sub of integers; Make, Mul, Sub, Sign, Cmp. -/
import Derived.Test.YtgkojhhodncpbaaDoorU3
set_option linter.unusedVariables false
set_option linter.unusedSimpArgs false
namespace Go.Proofs.YtgkojhhodncpbaaDoor
open Go.RowKit

theorem sg_not (n : Bool) (m : Nat) : sg (!n) m = -sg n m := by unfold sg; cases n <;> simp
set_option maxHeartbeats 2000000 in
set_option maxRecDepth 100000 in
theorem rsub03_c (n1 n2 : Bool) (A1 A2 : Option Addr) (c1 c2 : Nat) (xs ys : List Nat) (w : World) (h1 : Rd w A1 c1 xs) (h2 : Rd w A2 c2 ys) (hs1 : xs.length ≤ 10000000) (hs2 : ys.length ≤ 10000000) :
    Calls Tryd.prog 138 #[intV n1 A1 xs.length c1, intV n2 A2 ys.length c2] w (IntR w (sg n1 (val xs) - sg n2 (val ys))) := by
  obtain ⟨hX, hY, hR, hE⟩ := boxesI w n1 n2 (.slice A1 xs.length c1) (.slice A2 ys.length c2) _ rfl
  have hng := fun w h => rneg_c n2 A2 c2 ys w h (by omega)
  rw [sg_not] at hng
  have hly : (cn (-sg n2 (val ys)).natAbs).length ≤ 10000000 := by
    have e : (-sg n2 (val ys)).natAbs = val ys := by rw [← sg_not, sg_abs]
    rw [e]
    have : (cn (val ys)).length ≤ ys.length := (cn_len_le _ _).2 (val_lt h2.w64)
    omega
  have hadd := fun A c w h1 h => radd03_c n1 (decide (-sg n2 (val ys) < 0)) A1 A c1 c xs (cn (-sg n2 (val ys)).natAbs) w h1 h hs1 hly
  rw [val_cn, sg_self, ← Int.sub_eq_add_neg] at hadd
  unfold IntR at hng
  generalize sg n1 (val xs) - sg n2 (val ys) = z at *
  generalize decide (-sg n2 (val ys) < 0) = nb at *
  generalize cn (-sg n2 (val ys)).natAbs = Y at *
  have HX := Lib.hid hX
  have HY := Lib.hid hY
  have HR := Lib.hid hR
  have HE := Lib.hid hE
  clear hX hY hR hE hly hs1 hs2
  go_enter Tryd.func138, Tryd.ntmps138
  go_wp2_with fail
  have hX := HX.out
  have hY := HY.out
  have hR := HR.out
  have hE := HE.out
  clear HX HY HR HE
  generalize (((w.alloc (.cells #[.bool n1, .slice A1 xs.length c1] 50)).alloc (.cells #[.bool n2, .slice A2 ys.length c2] 50)).alloc (.cells #[.bool false, .slice none 0 0] 50)) = W at *
  obtain ⟨x0, x1, -⟩ := hX.facts
  obtain ⟨y0, y1, -⟩ := hY.facts
  have hlr := hR.lt
  go_region_held3 (fun w' => w'.cell? ⟨w.heap.size, 0, none⟩ = some (.bool n1) ∧ w'.cell? ⟨w.heap.size, 1, none⟩ = some (.slice A1 xs.length c1) ∧ w'.cell? ⟨w.heap.size + 1, 0, none⟩ = some (.bool n2) ∧ w'.cell? ⟨w.heap.size + 1, 1, none⟩ = some (.slice A2 ys.length c2))
    (first | go_keep | (go_split_ands; refine ⟨?_, ?_, ?_, ?_⟩ <;> first | assumption | (refine Ext.cell (w := W) ?_ ?_ <;> assumption)))
    (first
      | (go_at_call 151; (with_reducible refine (hng _ (h2.ext hE).drew).mono ?_); rintro e w3 ⟨A3, c3, rfl, ho3, hb3⟩; obtain ⟨-, hr3⟩ := ho3.rdAt; have hE3 : Ext W w3 := (Ext.refl W).drew.tr hb3; have hr13 := h1.ext (hE.tr hE3))
      | (go_at_call 150; (with_reducible refine (hadd A3 c3 _ hr13 hr3).mono ?_); rintro e w4 ⟨A4, c4, rfl, ho4, hb4⟩; have hE4 : Ext W w4 := hE3.tr hb4; obtain ⟨q0, q1, qf⟩ := (hR.ext hE4).facts; obtain ⟨k0, k1, -⟩ := ((hX.ext hE4).apart (g' := w.heap.size + 1 + 1) (by omega) (.bool (decide (z < 0))) (.slice A4 (cn z.natAbs).length c4)).facts; obtain ⟨l0, l1, -⟩ := ((hY.ext hE4).apart (g' := w.heap.size + 1 + 1) (by omega) (.bool (decide (z < 0))) (.slice A4 (cn z.natAbs).length c4)).facts))
  go_wp2
  have hl3 := (hR.ext hE3).lt
  have hR5 := (hR.ext hE4).put (.bool (decide (z < 0))) (.slice A4 (cn z.natAbs).length c4)
  obtain ⟨r0, r1, rf⟩ := hR5.facts
  refine bodyPost_ret (v := intV (decide (z < 0)) A4 (cn z.natAbs).length c4) (by simp [results, Tryd.results138, go_sem, r0, r1]) rfl ?_
  exact ⟨_, _, rfl, (ho4.puti (g := w.heap.size + 1 + 1) hl3 _ _).low (hE.tr hE3).size, (hE.tr hE4).puti (g := w.heap.size + 1 + 1) (by omega) _ _⟩
set_option maxHeartbeats 1000000 in
set_option maxRecDepth 100000 in
theorem rmake11_c (neg : Bool) (A : Option Addr) (c : Nat) (xs : List Nat) (w : World) (h : Rd w A c xs) (hs : xs.length ≤ 100000000) :
    Calls Tryd.prog 76 #[.bool neg, .slice A xs.length c] w (IntR w (sg neg (val xs))) := by
  have hmk := fun w h => rmake_c neg A c xs w h hs
  have hB := Bi.new w (.bool false) (.slice none 0 0)
  have hA := (Ext.refl w).al (.cells #[.bool false, .slice none 0 0] 50)
  have hsz := hB.lt
  have HB := Lib.hid hB
  have HA := Lib.hid hA
  generalize sg neg (val xs) = z at *
  clear hB hA
  go_enter Tryd.func76, Tryd.ntmps76
  go_wp2_with fail
  refine (hmk _ (h.ext HA.out)).mono ?_
  rintro e w1 ⟨A1, c1, rfl, ho, hb⟩
  have hB1 := HB.out.ext hb
  obtain ⟨b0, b1, bf⟩ := hB1.facts
  go_wp2
  have hB2 := hB1.put (.bool (decide (z < 0))) (.slice A1 (cn z.natAbs).length c1)
  obtain ⟨r0, r1, rf⟩ := hB2.facts
  refine bodyPost_ret (v := intV (decide (z < 0)) A1 (cn z.natAbs).length c1) (by simp [results, Tryd.results76, go_sem, r0, r1]) rfl ?_
  exact ⟨_, _, rfl, (ho.puti (g := w.heap.size) hsz _ _).low HA.out.size, (HA.out.tr hb).puti (g := w.heap.size) (Nat.le_refl _) _ _⟩
set_option maxHeartbeats 1000000 in
set_option maxRecDepth 100000 in
theorem rmul11_c (n1 n2 : Bool) (A1 A2 : Option Addr) (c1 c2 : Nat) (xs ys : List Nat) (w : World) (h1 : Rd w A1 c1 xs) (h2 : Rd w A2 c2 ys) (hs1 : xs.length ≤ 10000000) (hs2 : ys.length ≤ 10000000) :
    Calls Tryd.prog 75 #[intV n1 A1 xs.length c1, intV n2 A2 ys.length c2] w (IntR w (sg n1 (val xs) * sg n2 (val ys))) := by
  obtain ⟨hX, hY, hR, hE⟩ := boxesI w n1 n2 (.slice A1 xs.length c1) (.slice A2 ys.length c2) _ rfl
  have hml := fun w h1 h2 => rmul03_c n1 n2 A1 A2 c1 c2 xs ys w h1 h2 hs1 hs2
  generalize sg n1 (val xs) * sg n2 (val ys) = z at *
  have HR := Lib.hid hR
  have HE := Lib.hid hE
  clear hX hY hR hE hs1 hs2
  go_enter Tryd.func75, Tryd.ntmps75
  go_wp2_with fail
  have hR := HR.out
  have hE := HE.out
  clear HR HE
  generalize (((w.alloc (.cells #[.bool n1, .slice A1 xs.length c1] 50)).alloc (.cells #[.bool n2, .slice A2 ys.length c2] 50)).alloc (.cells #[.bool false, .slice none 0 0] 50)) = W at *
  have hlr := hR.lt
  refine (hml _ (h1.ext hE) (h2.ext hE)).mono ?_
  rintro e w4 ⟨A4, c4, rfl, ho4, hb4⟩
  have hR4 := hR.ext hb4
  obtain ⟨q0, q1, qf⟩ := hR4.facts
  go_wp2
  have hR5 := hR4.put (.bool (decide (z < 0))) (.slice A4 (cn z.natAbs).length c4)
  obtain ⟨r0, r1, rf⟩ := hR5.facts
  refine bodyPost_ret (v := intV (decide (z < 0)) A4 (cn z.natAbs).length c4) (by simp [results, Tryd.results75, go_sem, r0, r1]) rfl ?_
  exact ⟨_, _, rfl, (ho4.puti (g := w.heap.size + 1 + 1) hlr _ _).low hE.size, (hE.tr hb4).puti (g := w.heap.size + 1 + 1) (by omega) _ _⟩
set_option maxHeartbeats 1000000 in
set_option maxRecDepth 100000 in
theorem rsub11_c (n1 n2 : Bool) (A1 A2 : Option Addr) (c1 c2 : Nat) (xs ys : List Nat) (w : World) (h1 : Rd w A1 c1 xs) (h2 : Rd w A2 c2 ys) (hs1 : xs.length ≤ 10000000) (hs2 : ys.length ≤ 10000000) :
    Calls Tryd.prog 113 #[intV n1 A1 xs.length c1, intV n2 A2 ys.length c2] w (IntR w (sg n1 (val xs) - sg n2 (val ys))) := by
  obtain ⟨hX, hY, hR, hE⟩ := boxesI w n1 n2 (.slice A1 xs.length c1) (.slice A2 ys.length c2) _ rfl
  have hml := fun w h1 h2 => rsub03_c n1 n2 A1 A2 c1 c2 xs ys w h1 h2 hs1 hs2
  generalize sg n1 (val xs) - sg n2 (val ys) = z at *
  have HR := Lib.hid hR
  have HE := Lib.hid hE
  clear hX hY hR hE hs1 hs2
  go_enter Tryd.func113, Tryd.ntmps113
  go_wp2_with fail
  have hR := HR.out
  have hE := HE.out
  clear HR HE
  generalize (((w.alloc (.cells #[.bool n1, .slice A1 xs.length c1] 50)).alloc (.cells #[.bool n2, .slice A2 ys.length c2] 50)).alloc (.cells #[.bool false, .slice none 0 0] 50)) = W at *
  have hlr := hR.lt
  refine (hml _ (h1.ext hE) (h2.ext hE)).mono ?_
  rintro e w4 ⟨A4, c4, rfl, ho4, hb4⟩
  have hR4 := hR.ext hb4
  obtain ⟨q0, q1, qf⟩ := hR4.facts
  go_wp2
  have hR5 := hR4.put (.bool (decide (z < 0))) (.slice A4 (cn z.natAbs).length c4)
  obtain ⟨r0, r1, rf⟩ := hR5.facts
  refine bodyPost_ret (v := intV (decide (z < 0)) A4 (cn z.natAbs).length c4) (by simp [results, Tryd.results113, go_sem, r0, r1]) rfl ?_
  exact ⟨_, _, rfl, (ho4.puti (g := w.heap.size + 1 + 1) hlr _ _).low hE.size, (hE.tr hb4).puti (g := w.heap.size + 1 + 1) (by omega) _ _⟩
set_option maxHeartbeats 1000000 in
set_option maxRecDepth 100000 in
theorem rsign11_c (neg : Bool) (A : Option Addr) (c : Nat) (xs : List Nat) (w : World) (h : Rd w A c xs) (hs : xs.length ≤ 100000000) :
    Calls Tryd.prog 112 #[intV neg A xs.length c] w fun e w' => e = .returned (.int .i64 (sgn (sg neg (val xs)))) ∧ Ext w w' := by
  have hsn := fun w h => rsign_c neg A c xs w h hs
  have hA := (Ext.refl w).al (.cells #[.bool neg, .slice A xs.length c] 50)
  generalize sgn (sg neg (val xs)) = z at *
  go_enter Tryd.func112, Tryd.ntmps112
  go_wp2_with fail
  refine (hsn _ (h.ext hA)).mono ?_
  rintro e w1 ⟨rfl, hb⟩
  go_wp2
  go_ret
  exact ⟨rfl, hA.tr hb⟩
set_option maxHeartbeats 1000000 in
set_option maxRecDepth 100000 in
theorem rcmp11_c (n1 n2 : Bool) (A1 A2 : Option Addr) (c1 c2 : Nat) (xs ys : List Nat) (w : World) (h1 : Rd w A1 c1 xs) (h2 : Rd w A2 c2 ys) (hs1 : xs.length ≤ 10000000) (hs2 : ys.length ≤ 10000000) :
    Calls Tryd.prog 74 #[intV n1 A1 xs.length c1, intV n2 A2 ys.length c2] w fun e w' => e = .returned (.int .i64 (sgn (sg n1 (val xs) - sg n2 (val ys)))) ∧ Ext w w' := by
  have hA := ((Ext.refl w).al (.cells #[.bool n1, .slice A1 xs.length c1] 50)).al (.cells #[.bool n2, .slice A2 ys.length c2] 50)
  have hml := fun w h1 h2 => rsub11_c n1 n2 A1 A2 c1 c2 xs ys w h1 h2 hs1 hs2
  have hzl : (cn (sg n1 (val xs) - sg n2 (val ys)).natAbs).length ≤ 100000000 := by
    have v1 := val_lt h1.w64
    have v2 := val_lt h2.w64
    have e1 := sg_abs n1 (val xs)
    have e2 := sg_abs n2 (val ys)
    have : (cn (sg n1 (val xs) - sg n2 (val ys)).natAbs).length ≤ xs.length + ys.length + 1 := by
      refine (cn_len_le _ _).2 ?_
      have p1 : B ^ xs.length ≤ B ^ (xs.length + ys.length) := Nat.pow_le_pow_right (by rw [B_eq]; omega) (by omega)
      have p2 : B ^ ys.length ≤ B ^ (xs.length + ys.length) := Nat.pow_le_pow_right (by rw [B_eq]; omega) (by omega)
      have p3 := two_le_B
      rw [Nat.pow_succ]
      have p4 : B ^ (xs.length + ys.length) * 2 ≤ B ^ (xs.length + ys.length) * B := Nat.mul_le_mul_left _ p3
      omega
    omega
  generalize sg n1 (val xs) - sg n2 (val ys) = z at *
  have hsn := fun A c w h => rsign11_c (decide (z < 0)) A c (cn z.natAbs) w h hzl
  rw [val_cn, sg_self] at hsn
  unfold IntR at hml
  generalize sgn z = s at *
  generalize decide (z < 0) = nb at *
  generalize cn z.natAbs = Z at *
  clear hzl hs1 hs2
  go_enter Tryd.func74, Tryd.ntmps74
  go_wp2_with fail
  refine (hml _ (h1.ext hA) (h2.ext hA)).mono ?_
  rintro e w1 ⟨A3, c3, rfl, ho, hb⟩
  obtain ⟨-, hr⟩ := ho.rdAt
  go_wp2_with fail
  refine (hsn A3 c3 _ hr).mono ?_
  rintro e w2 ⟨rfl, hb2⟩
  go_wp2
  go_ret
  exact ⟨rfl, (hA.tr hb).tr hb2⟩
end Go.Proofs.YtgkojhhodncpbaaDoor
