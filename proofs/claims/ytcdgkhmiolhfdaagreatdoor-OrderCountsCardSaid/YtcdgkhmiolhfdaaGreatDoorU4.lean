/- The reference 03: Add, Sub of integers. The references 03, 11: Sub of integers; Make, Mul, Sub, Sign, Cmp. -/
import Derived.Test.YtcdgkhmiolhfdaaGreatDoorU2
set_option linter.unusedVariables false
set_option linter.unusedSimpArgs false
namespace Go.Proofs.YtcdgkhmiolhfdaaGreatDoor
open Go.RowKit

set_option maxHeartbeats 2000000 in
set_option maxRecDepth 100000 in
theorem radd03_c (n1 n2 : Bool) (A1 A2 : Option Addr) (c1 c2 : Nat) (xs ys : List Nat) (w : World) (h1 : Rd w A1 c1 xs) (h2 : Rd w A2 c2 ys) (hs1 : xs.length ≤ 10000000) (hs2 : ys.length ≤ 10000000) :
    Calls Tryz.prog 62 #[intV n1 A1 xs.length c1, intV n2 A2 ys.length c2] w (IntR w (sg n1 (val xs) + sg n2 (val ys))) := by
  obtain ⟨hX, hY, hR, hE⟩ := boxesI w n1 n2 (.slice A1 xs.length c1) (.slice A2 ys.length c2) _ rfl
  have hadd := fun w h1 h2 => radd_c A1 A2 c1 c2 xs ys w h1 h2 hs1 hs2
  have hcmp := fun w h1 h2 => rcmp_c A1 A2 c1 c2 xs ys w h1 h2 hs1 hs2
  have v1 := val_lt h1.w64
  have v2 := val_lt h2.w64
  have hl1 : (cn (val xs + val ys)).length ≤ 100000000 := by
    have : (cn (val xs + val ys)).length ≤ xs.length + ys.length + 1 := by
      refine (cn_len_le _ _).2 ?_
      have p1 : B ^ xs.length ≤ B ^ (xs.length + ys.length) := Nat.pow_le_pow_right (by rw [B_eq]; omega) (by omega)
      have p2 : B ^ ys.length ≤ B ^ (xs.length + ys.length) := Nat.pow_le_pow_right (by rw [B_eq]; omega) (by omega)
      have p3 := two_le_B
      rw [Nat.pow_succ]
      have p4 : B ^ (xs.length + ys.length) * 2 ≤ B ^ (xs.length + ys.length) * B := Nat.mul_le_mul_left _ p3
      omega
    omega
  have hlx : (cn (val xs - val ys)).length ≤ 100000000 := by
    have : (cn (val xs - val ys)).length ≤ xs.length := (cn_len_le _ _).2 (by omega)
    omega
  have hly : (cn (val ys - val xs)).length ≤ 100000000 := by
    have : (cn (val ys - val xs)).length ≤ ys.length := (cn_len_le _ _).2 (by omega)
    omega
  have main : (n1 = n2 ∧ sg n1 (val xs) + sg n2 (val ys) = sg n1 (val xs + val ys)) ∨ ((n1 == n2) = false ∧ (val ys ≤ val xs ∧ cmp3 (val xs) (val ys) ≥ 0) ∧ sg n1 (val xs) + sg n2 (val ys) = sg n1 (val xs - val ys)) ∨ ((n1 == n2) = false ∧ (val xs ≤ val ys ∧ ¬ cmp3 (val xs) (val ys) ≥ 0) ∧ sg n1 (val xs) + sg n2 (val ys) = sg n2 (val ys - val xs)) := by
    by_cases hn : n1 = n2
    · refine .inl ⟨hn, ?_⟩
      subst hn
      unfold sg
      cases n1 <;> simp <;> omega
    · have hb : (n1 == n2) = false := by simpa using hn
      rcases Nat.lt_or_ge (val xs) (val ys) with hl | hl
      · refine .inr (.inr ⟨hb, ⟨by omega, by rw [cmp3_lt hl]; omega⟩, ?_⟩)
        unfold sg
        cases n1 <;> cases n2 <;> simp at hn ⊢ <;> omega
      · have hc : cmp3 (val xs) (val ys) ≥ 0 := by
          rcases Nat.lt_or_ge (val ys) (val xs) with hg | hg
          · rw [cmp3_gt hg]; omega
          · rw [cmp3_eq (by omega)]; omega
        refine .inr (.inl ⟨hb, ⟨hl, hc⟩, ?_⟩)
        unfold sg
        cases n1 <;> cases n2 <;> simp at hn ⊢ <;> omega
  have HX := Lib.hid hX
  have HY := Lib.hid hY
  have HR := Lib.hid hR
  have HE := Lib.hid hE
  clear hX hY hR hE v1 v2
  rcases main with ⟨rfl, hz⟩ | ⟨hb, ⟨hle, hc⟩, hz⟩ | ⟨hb, ⟨hle, hc⟩, hz⟩
  · have hmk := fun A c w h => rmake_c n1 A c (cn (val xs + val ys)) w h hl1
    rw [val_cn, ← hz] at hmk
    generalize sg n1 (val xs) + sg n1 (val ys) = z at *
    generalize cn (val xs + val ys) = X at *
    clear hz hl1 hlx hly hs1 hs2 hcmp
    go_enter Tryz.func62, Tryz.ntmps62
    go_wp2_with fail
    have hX := HX.out
    have hY := HY.out
    have hR := HR.out
    have hE := HE.out
    clear HX HY HR HE
    generalize (((w.alloc (.cells #[.bool n1, .slice A1 xs.length c1] 56)).alloc (.cells #[.bool n1, .slice A2 ys.length c2] 56)).alloc (.cells #[.bool false, .slice none 0 0] 56)) = W at *
    obtain ⟨x0, x1, -⟩ := hX.facts
    obtain ⟨y0, y1, -⟩ := hY.facts
    have hlr := hR.lt
    go_region_held3 (fun w' => w'.cell? ⟨w.heap.size, 0, none⟩ = some (.bool n1) ∧ w'.cell? ⟨w.heap.size, 1, none⟩ = some (.slice A1 xs.length c1) ∧ w'.cell? ⟨w.heap.size + 1, 1, none⟩ = some (.slice A2 ys.length c2))
      (first | go_keep | (go_split_ands; refine ⟨?_, ?_, ?_⟩ <;> first | assumption | (refine Ext.cell (w := W) ?_ ?_ <;> assumption)))
      (first
        | (go_at_call 98; (with_reducible refine (hadd _ (h1.ext hE).drew (h2.ext hE).drew).mono ?_); rintro e w3 ⟨v, rfl, ho3, hb3⟩; obtain ⟨A3, c3, rfl, hr3⟩ := ho3.rd; have hE3 : Ext W w3 := (Ext.refl W).drew.tr hb3)
        | (go_at_call 96; (with_reducible refine (hmk A3 c3 _ hr3).mono ?_); rintro e w4 ⟨A4, c4, rfl, ho4, hb4⟩; have hE4 : Ext W w4 := hE3.tr hb4; obtain ⟨q0, q1, qf⟩ := (hR.ext hE4).facts; obtain ⟨k0, k1, -⟩ := ((hX.ext hE4).apart (g' := w.heap.size + 1 + 1) (by omega) (.bool (decide (z < 0))) (.slice A4 (cn z.natAbs).length c4)).facts; obtain ⟨l0, l1, -⟩ := ((hY.ext hE4).apart (g' := w.heap.size + 1 + 1) (by omega) (.bool (decide (z < 0))) (.slice A4 (cn z.natAbs).length c4)).facts))
    go_wp2
    have hl3 := (hR.ext hE3).lt
    have hR5 := (hR.ext hE4).put (.bool (decide (z < 0))) (.slice A4 (cn z.natAbs).length c4)
    obtain ⟨r0, r1, rf⟩ := hR5.facts
    refine bodyPost_ret (v := intV (decide (z < 0)) A4 (cn z.natAbs).length c4) (by simp [results, Tryz.results62, go_sem, r0, r1]) rfl ?_
    exact ⟨_, _, rfl, (ho4.puti (g := w.heap.size + 1 + 1) hl3 _ _).low (hE.tr hE3).size, (hE.tr hE4).puti (g := w.heap.size + 1 + 1) (by omega) _ _⟩
  · have hmk := fun A c w h => rmake_c n1 A c (cn (val xs - val ys)) w h hlx
    rw [val_cn, ← hz] at hmk
    have hsub := fun w h1 h2 => rsub_c A1 A2 c1 c2 xs ys w h1 h2 hle hs1 hs2
    generalize sg n1 (val xs) + sg n2 (val ys) = z at *
    generalize cn (val xs - val ys) = X at *
    generalize cmp3 (val xs) (val ys) = t at *
    have hc2 : decide (0 ≤ t) = true := by simpa using hc
    clear hz hl1 hlx hly hs1 hs2 hadd hle hc
    go_enter Tryz.func62, Tryz.ntmps62
    go_wp2_with fail
    have hX := HX.out
    have hY := HY.out
    have hR := HR.out
    have hE := HE.out
    clear HX HY HR HE
    generalize (((w.alloc (.cells #[.bool n1, .slice A1 xs.length c1] 56)).alloc (.cells #[.bool n2, .slice A2 ys.length c2] 56)).alloc (.cells #[.bool false, .slice none 0 0] 56)) = W at *
    refine (hcmp _ (h1.ext hE) (h2.ext hE)).mono ?_
    rintro e w2 ⟨rfl, hb2⟩
    replace hX := hX.ext hb2
    replace hY := hY.ext hb2
    replace hR := hR.ext hb2
    replace hE := hE.tr hb2
    obtain ⟨x0, x1, -⟩ := hX.facts
    obtain ⟨y0, y1, -⟩ := hY.facts
    have hlr := hR.lt
    go_wp2_with fail
    go_region_held3 (fun w' => w'.cell? ⟨w.heap.size, 0, none⟩ = some (.bool n1) ∧ w'.cell? ⟨w.heap.size, 1, none⟩ = some (.slice A1 xs.length c1) ∧ w'.cell? ⟨w.heap.size + 1, 1, none⟩ = some (.slice A2 ys.length c2))
      (first | go_keep | (go_split_ands; refine ⟨?_, ?_, ?_⟩ <;> first | assumption | (refine Ext.cell (w := w2) ?_ ?_ <;> assumption)))
      (first
        | (go_at_call 112; (with_reducible refine (hsub _ (h1.ext hE).drew (h2.ext hE).drew).mono ?_); rintro e w3 ⟨v, rfl, ho3, hb3⟩; obtain ⟨A3, c3, rfl, hr3⟩ := ho3.rd; have hE3 : Ext w2 w3 := (Ext.refl w2).drew.tr hb3)
        | (go_at_call 96; (with_reducible refine (hmk A3 c3 _ hr3).mono ?_); rintro e w4 ⟨A4, c4, rfl, ho4, hb4⟩; have hE4 : Ext w2 w4 := hE3.tr hb4; obtain ⟨q0, q1, qf⟩ := (hR.ext hE4).facts; obtain ⟨k0, k1, -⟩ := ((hX.ext hE4).apart (g' := w.heap.size + 1 + 1) (by omega) (.bool (decide (z < 0))) (.slice A4 (cn z.natAbs).length c4)).facts; obtain ⟨l0, l1, -⟩ := ((hY.ext hE4).apart (g' := w.heap.size + 1 + 1) (by omega) (.bool (decide (z < 0))) (.slice A4 (cn z.natAbs).length c4)).facts))
    go_wp2
    have hl3 := (hR.ext hE3).lt
    have hR5 := (hR.ext hE4).put (.bool (decide (z < 0))) (.slice A4 (cn z.natAbs).length c4)
    obtain ⟨r0, r1, rf⟩ := hR5.facts
    refine bodyPost_ret (v := intV (decide (z < 0)) A4 (cn z.natAbs).length c4) (by simp [results, Tryz.results62, go_sem, r0, r1]) rfl ?_
    exact ⟨_, _, rfl, (ho4.puti (g := w.heap.size + 1 + 1) hl3 _ _).low (hE.tr hE3).size, (hE.tr hE4).puti (g := w.heap.size + 1 + 1) (by omega) _ _⟩
  · have hmk := fun A c w h => rmake_c n2 A c (cn (val ys - val xs)) w h hly
    rw [val_cn, ← hz] at hmk
    have hsub := fun w h1 h2 => rsub_c A2 A1 c2 c1 ys xs w h1 h2 hle hs2 hs1
    generalize sg n1 (val xs) + sg n2 (val ys) = z at *
    generalize cn (val ys - val xs) = X at *
    generalize cmp3 (val xs) (val ys) = t at *
    have hc2 : decide (0 ≤ t) = false := by simpa using hc
    clear hz hl1 hlx hly hs1 hs2 hadd hle hc
    go_enter Tryz.func62, Tryz.ntmps62
    go_wp2_with fail
    have hX := HX.out
    have hY := HY.out
    have hR := HR.out
    have hE := HE.out
    clear HX HY HR HE
    generalize (((w.alloc (.cells #[.bool n1, .slice A1 xs.length c1] 56)).alloc (.cells #[.bool n2, .slice A2 ys.length c2] 56)).alloc (.cells #[.bool false, .slice none 0 0] 56)) = W at *
    refine (hcmp _ (h1.ext hE) (h2.ext hE)).mono ?_
    rintro e w2 ⟨rfl, hb2⟩
    replace hX := hX.ext hb2
    replace hY := hY.ext hb2
    replace hR := hR.ext hb2
    replace hE := hE.tr hb2
    obtain ⟨x0, x1, -⟩ := hX.facts
    obtain ⟨y0, y1, -⟩ := hY.facts
    have hlr := hR.lt
    go_wp2_with fail
    go_region_held3 (fun w' => w'.cell? ⟨w.heap.size, 1, none⟩ = some (.slice A1 xs.length c1) ∧ w'.cell? ⟨w.heap.size + 1, 0, none⟩ = some (.bool n2) ∧ w'.cell? ⟨w.heap.size + 1, 1, none⟩ = some (.slice A2 ys.length c2))
      (first | go_keep | (go_split_ands; refine ⟨?_, ?_, ?_⟩ <;> first | assumption | (refine Ext.cell (w := w2) ?_ ?_ <;> assumption)))
      (first
        | (go_at_call 112; (with_reducible refine (hsub _ (h2.ext hE).drew (h1.ext hE).drew).mono ?_); rintro e w3 ⟨v, rfl, ho3, hb3⟩; obtain ⟨A3, c3, rfl, hr3⟩ := ho3.rd; have hE3 : Ext w2 w3 := (Ext.refl w2).drew.tr hb3)
        | (go_at_call 96; (with_reducible refine (hmk A3 c3 _ hr3).mono ?_); rintro e w4 ⟨A4, c4, rfl, ho4, hb4⟩; have hE4 : Ext w2 w4 := hE3.tr hb4; obtain ⟨q0, q1, qf⟩ := (hR.ext hE4).facts; obtain ⟨k0, k1, -⟩ := ((hX.ext hE4).apart (g' := w.heap.size + 1 + 1) (by omega) (.bool (decide (z < 0))) (.slice A4 (cn z.natAbs).length c4)).facts; obtain ⟨l0, l1, -⟩ := ((hY.ext hE4).apart (g' := w.heap.size + 1 + 1) (by omega) (.bool (decide (z < 0))) (.slice A4 (cn z.natAbs).length c4)).facts))
    go_wp2
    have hl3 := (hR.ext hE3).lt
    have hR5 := (hR.ext hE4).put (.bool (decide (z < 0))) (.slice A4 (cn z.natAbs).length c4)
    obtain ⟨r0, r1, rf⟩ := hR5.facts
    refine bodyPost_ret (v := intV (decide (z < 0)) A4 (cn z.natAbs).length c4) (by simp [results, Tryz.results62, go_sem, r0, r1]) rfl ?_
    exact ⟨_, _, rfl, (ho4.puti (g := w.heap.size + 1 + 1) hl3 _ _).low (hE.tr hE3).size, (hE.tr hE4).puti (g := w.heap.size + 1 + 1) (by omega) _ _⟩
end Go.Proofs.YtcdgkhmiolhfdaaGreatDoor
namespace Go.Proofs.YtcdgkhmiolhfdaaGreatDoor
open Go.RowKit

theorem sg_not (n : Bool) (m : Nat) : sg (!n) m = -sg n m := by unfold sg; cases n <;> simp
set_option maxHeartbeats 2000000 in
set_option maxRecDepth 100000 in
theorem rsub03_c (n1 n2 : Bool) (A1 A2 : Option Addr) (c1 c2 : Nat) (xs ys : List Nat) (w : World) (h1 : Rd w A1 c1 xs) (h2 : Rd w A2 c2 ys) (hs1 : xs.length ≤ 10000000) (hs2 : ys.length ≤ 10000000) :
    Calls Tryz.prog 55 #[intV n1 A1 xs.length c1, intV n2 A2 ys.length c2] w (IntR w (sg n1 (val xs) - sg n2 (val ys))) := by
  obtain ⟨hX, hY, hR, hE⟩ := boxesI w n1 n2 (.slice A1 xs.length c1) (.slice A2 ys.length c2) _ rfl
  have hng := fun w h => rneg_c n2 A2 c2 ys w h (by omega)
  rw [sg_not] at hng
  have hly : (cn (-sg n2 (val ys)).natAbs).length ≤ 10000000 := by
    have e : (-sg n2 (val ys)).natAbs = val ys := by rw [← sg_not, sg_abs]
    rw [e]
    have : (cn (val ys)).length ≤ ys.length := (cn_len_le _ _).2 (val_lt h2.w64)
    omega
  have hadd := fun A c w h1 h => radd03_c n1 (decide (-sg n2 (val ys) < 0)) A1 A c1 c xs (cn (-sg n2 (val ys)).natAbs) w h1 h hs1 hly
  rw [val_cn, sg_self, ← Int.sub_eq_add_neg] at hadd
  unfold IntR at hng
  generalize sg n1 (val xs) - sg n2 (val ys) = z at *
  generalize decide (-sg n2 (val ys) < 0) = nb at *
  generalize cn (-sg n2 (val ys)).natAbs = Y at *
  have HX := Lib.hid hX
  have HY := Lib.hid hY
  have HR := Lib.hid hR
  have HE := Lib.hid hE
  clear hX hY hR hE hly hs1 hs2
  go_enter Tryz.func55, Tryz.ntmps55
  go_wp2_with fail
  have hX := HX.out
  have hY := HY.out
  have hR := HR.out
  have hE := HE.out
  clear HX HY HR HE
  generalize (((w.alloc (.cells #[.bool n1, .slice A1 xs.length c1] 56)).alloc (.cells #[.bool n2, .slice A2 ys.length c2] 56)).alloc (.cells #[.bool false, .slice none 0 0] 56)) = W at *
  obtain ⟨x0, x1, -⟩ := hX.facts
  obtain ⟨y0, y1, -⟩ := hY.facts
  have hlr := hR.lt
  go_region_held3 (fun w' => w'.cell? ⟨w.heap.size, 0, none⟩ = some (.bool n1) ∧ w'.cell? ⟨w.heap.size, 1, none⟩ = some (.slice A1 xs.length c1) ∧ w'.cell? ⟨w.heap.size + 1, 0, none⟩ = some (.bool n2) ∧ w'.cell? ⟨w.heap.size + 1, 1, none⟩ = some (.slice A2 ys.length c2))
    (first | go_keep | (go_split_ands; refine ⟨?_, ?_, ?_, ?_⟩ <;> first | assumption | (refine Ext.cell (w := W) ?_ ?_ <;> assumption)))
    (first
      | (go_at_call 95; (with_reducible refine (hng _ (h2.ext hE).drew).mono ?_); rintro e w3 ⟨A3, c3, rfl, ho3, hb3⟩; obtain ⟨-, hr3⟩ := ho3.rdAt; have hE3 : Ext W w3 := (Ext.refl W).drew.tr hb3; have hr13 := h1.ext (hE.tr hE3))
      | (go_at_call 62; (with_reducible refine (hadd A3 c3 _ hr13 hr3).mono ?_); rintro e w4 ⟨A4, c4, rfl, ho4, hb4⟩; have hE4 : Ext W w4 := hE3.tr hb4; obtain ⟨q0, q1, qf⟩ := (hR.ext hE4).facts; obtain ⟨k0, k1, -⟩ := ((hX.ext hE4).apart (g' := w.heap.size + 1 + 1) (by omega) (.bool (decide (z < 0))) (.slice A4 (cn z.natAbs).length c4)).facts; obtain ⟨l0, l1, -⟩ := ((hY.ext hE4).apart (g' := w.heap.size + 1 + 1) (by omega) (.bool (decide (z < 0))) (.slice A4 (cn z.natAbs).length c4)).facts))
  go_wp2
  have hl3 := (hR.ext hE3).lt
  have hR5 := (hR.ext hE4).put (.bool (decide (z < 0))) (.slice A4 (cn z.natAbs).length c4)
  obtain ⟨r0, r1, rf⟩ := hR5.facts
  refine bodyPost_ret (v := intV (decide (z < 0)) A4 (cn z.natAbs).length c4) (by simp [results, Tryz.results55, go_sem, r0, r1]) rfl ?_
  exact ⟨_, _, rfl, (ho4.puti (g := w.heap.size + 1 + 1) hl3 _ _).low (hE.tr hE3).size, (hE.tr hE4).puti (g := w.heap.size + 1 + 1) (by omega) _ _⟩
set_option maxHeartbeats 1000000 in
set_option maxRecDepth 100000 in
theorem rsub11_c (n1 n2 : Bool) (A1 A2 : Option Addr) (c1 c2 : Nat) (xs ys : List Nat) (w : World) (h1 : Rd w A1 c1 xs) (h2 : Rd w A2 c2 ys) (hs1 : xs.length ≤ 10000000) (hs2 : ys.length ≤ 10000000) :
    Calls Tryz.prog 31 #[intV n1 A1 xs.length c1, intV n2 A2 ys.length c2] w (IntR w (sg n1 (val xs) - sg n2 (val ys))) := by
  obtain ⟨hX, hY, hR, hE⟩ := boxesI w n1 n2 (.slice A1 xs.length c1) (.slice A2 ys.length c2) _ rfl
  have hml := fun w h1 h2 => rsub03_c n1 n2 A1 A2 c1 c2 xs ys w h1 h2 hs1 hs2
  generalize sg n1 (val xs) - sg n2 (val ys) = z at *
  have HR := Lib.hid hR
  have HE := Lib.hid hE
  clear hX hY hR hE hs1 hs2
  go_enter Tryz.func31, Tryz.ntmps31
  go_wp2_with fail
  have hR := HR.out
  have hE := HE.out
  clear HR HE
  generalize (((w.alloc (.cells #[.bool n1, .slice A1 xs.length c1] 56)).alloc (.cells #[.bool n2, .slice A2 ys.length c2] 56)).alloc (.cells #[.bool false, .slice none 0 0] 56)) = W at *
  have hlr := hR.lt
  refine (hml _ (h1.ext hE) (h2.ext hE)).mono ?_
  rintro e w4 ⟨A4, c4, rfl, ho4, hb4⟩
  have hR4 := hR.ext hb4
  obtain ⟨q0, q1, qf⟩ := hR4.facts
  go_wp2
  have hR5 := hR4.put (.bool (decide (z < 0))) (.slice A4 (cn z.natAbs).length c4)
  obtain ⟨r0, r1, rf⟩ := hR5.facts
  refine bodyPost_ret (v := intV (decide (z < 0)) A4 (cn z.natAbs).length c4) (by simp [results, Tryz.results31, go_sem, r0, r1]) rfl ?_
  exact ⟨_, _, rfl, (ho4.puti (g := w.heap.size + 1 + 1) hlr _ _).low hE.size, (hE.tr hb4).puti (g := w.heap.size + 1 + 1) (by omega) _ _⟩
set_option maxHeartbeats 1000000 in
set_option maxRecDepth 100000 in
theorem rsign11_c (neg : Bool) (A : Option Addr) (c : Nat) (xs : List Nat) (w : World) (h : Rd w A c xs) (hs : xs.length ≤ 100000000) :
    Calls Tryz.prog 61 #[intV neg A xs.length c] w fun e w' => e = .returned (.int .i64 (sgn (sg neg (val xs)))) ∧ Ext w w' := by
  have hsn := fun w h => rsign_c neg A c xs w h hs
  have hA := (Ext.refl w).al (.cells #[.bool neg, .slice A xs.length c] 56)
  generalize sgn (sg neg (val xs)) = z at *
  go_enter Tryz.func61, Tryz.ntmps61
  go_wp2_with fail
  refine (hsn _ (h.ext hA)).mono ?_
  rintro e w1 ⟨rfl, hb⟩
  go_wp2
  go_ret
  exact ⟨rfl, hA.tr hb⟩
set_option maxHeartbeats 1000000 in
set_option maxRecDepth 100000 in
theorem rcmp11_c (n1 n2 : Bool) (A1 A2 : Option Addr) (c1 c2 : Nat) (xs ys : List Nat) (w : World) (h1 : Rd w A1 c1 xs) (h2 : Rd w A2 c2 ys) (hs1 : xs.length ≤ 10000000) (hs2 : ys.length ≤ 10000000) :
    Calls Tryz.prog 34 #[intV n1 A1 xs.length c1, intV n2 A2 ys.length c2] w fun e w' => e = .returned (.int .i64 (sgn (sg n1 (val xs) - sg n2 (val ys)))) ∧ Ext w w' := by
  have hA := ((Ext.refl w).al (.cells #[.bool n1, .slice A1 xs.length c1] 56)).al (.cells #[.bool n2, .slice A2 ys.length c2] 56)
  have hml := fun w h1 h2 => rsub11_c n1 n2 A1 A2 c1 c2 xs ys w h1 h2 hs1 hs2
  have hzl : (cn (sg n1 (val xs) - sg n2 (val ys)).natAbs).length ≤ 100000000 := by
    have v1 := val_lt h1.w64
    have v2 := val_lt h2.w64
    have e1 := sg_abs n1 (val xs)
    have e2 := sg_abs n2 (val ys)
    have : (cn (sg n1 (val xs) - sg n2 (val ys)).natAbs).length ≤ xs.length + ys.length + 1 := by
      refine (cn_len_le _ _).2 ?_
      have p1 : B ^ xs.length ≤ B ^ (xs.length + ys.length) := Nat.pow_le_pow_right (by rw [B_eq]; omega) (by omega)
      have p2 : B ^ ys.length ≤ B ^ (xs.length + ys.length) := Nat.pow_le_pow_right (by rw [B_eq]; omega) (by omega)
      have p3 := two_le_B
      rw [Nat.pow_succ]
      have p4 : B ^ (xs.length + ys.length) * 2 ≤ B ^ (xs.length + ys.length) * B := Nat.mul_le_mul_left _ p3
      omega
    omega
  generalize sg n1 (val xs) - sg n2 (val ys) = z at *
  have hsn := fun A c w h => rsign11_c (decide (z < 0)) A c (cn z.natAbs) w h hzl
  rw [val_cn, sg_self] at hsn
  unfold IntR at hml
  generalize sgn z = s at *
  generalize decide (z < 0) = nb at *
  generalize cn z.natAbs = Z at *
  clear hzl hs1 hs2
  go_enter Tryz.func34, Tryz.ntmps34
  go_wp2_with fail
  refine (hml _ (h1.ext hA) (h2.ext hA)).mono ?_
  rintro e w1 ⟨A3, c3, rfl, ho, hb⟩
  obtain ⟨-, hr⟩ := ho.rdAt
  go_wp2_with fail
  refine (hsn A3 c3 _ hr).mono ?_
  rintro e w2 ⟨rfl, hb2⟩
  go_wp2
  go_ret
  exact ⟨rfl, (hA.tr hb).tr hb2⟩
end Go.Proofs.YtcdgkhmiolhfdaaGreatDoor
