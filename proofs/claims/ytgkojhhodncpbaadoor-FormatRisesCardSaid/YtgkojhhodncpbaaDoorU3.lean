/- The reference 03: Add, Sub of integers. -/
import Derived.Test.YtgkojhhodncpbaaDoorU2
set_option linter.unusedVariables false
set_option linter.unusedSimpArgs false
namespace Go.Proofs.YtgkojhhodncpbaaDoor
open Go.RowKit

set_option maxHeartbeats 2000000 in
set_option maxRecDepth 100000 in
theorem radd03_c (n1 n2 : Bool) (A1 A2 : Option Addr) (c1 c2 : Nat) (xs ys : List Nat) (w : World) (h1 : Rd w A1 c1 xs) (h2 : Rd w A2 c2 ys) (hs1 : xs.length ≤ 10000000) (hs2 : ys.length ≤ 10000000) :
    Calls Tryd.prog 150 #[intV n1 A1 xs.length c1, intV n2 A2 ys.length c2] w (IntR w (sg n1 (val xs) + sg n2 (val ys))) := by
  obtain ⟨hX, hY, hR, hE⟩ := boxesI w n1 n2 (.slice A1 xs.length c1) (.slice A2 ys.length c2) _ rfl
  have hadd := fun w h1 h2 => radd_c A1 A2 c1 c2 xs ys w h1 h2 hs1 hs2
  have hcmp := fun w h1 h2 => rcmp_c A1 A2 c1 c2 xs ys w h1 h2 hs1 hs2
  have v1 := val_lt h1.w64
  have v2 := val_lt h2.w64
  have hl1 : (cn (val xs + val ys)).length ≤ 100000000 := by
    have : (cn (val xs + val ys)).length ≤ xs.length + ys.length + 1 := by
      refine (cn_len_le _ _).2 ?_
      have p1 : B ^ xs.length ≤ B ^ (xs.length + ys.length) := Nat.pow_le_pow_right (by rw [B_eq]; omega) (by omega)
      have p2 : B ^ ys.length ≤ B ^ (xs.length + ys.length) := Nat.pow_le_pow_right (by rw [B_eq]; omega) (by omega)
      have p3 := two_le_B
      rw [Nat.pow_succ]
      have p4 : B ^ (xs.length + ys.length) * 2 ≤ B ^ (xs.length + ys.length) * B := Nat.mul_le_mul_left _ p3
      omega
    omega
  have hlx : (cn (val xs - val ys)).length ≤ 100000000 := by
    have : (cn (val xs - val ys)).length ≤ xs.length := (cn_len_le _ _).2 (by omega)
    omega
  have hly : (cn (val ys - val xs)).length ≤ 100000000 := by
    have : (cn (val ys - val xs)).length ≤ ys.length := (cn_len_le _ _).2 (by omega)
    omega
  have main : (n1 = n2 ∧ sg n1 (val xs) + sg n2 (val ys) = sg n1 (val xs + val ys)) ∨ ((n1 == n2) = false ∧ (val ys ≤ val xs ∧ cmp3 (val xs) (val ys) ≥ 0) ∧ sg n1 (val xs) + sg n2 (val ys) = sg n1 (val xs - val ys)) ∨ ((n1 == n2) = false ∧ (val xs ≤ val ys ∧ ¬ cmp3 (val xs) (val ys) ≥ 0) ∧ sg n1 (val xs) + sg n2 (val ys) = sg n2 (val ys - val xs)) := by
    by_cases hn : n1 = n2
    · refine .inl ⟨hn, ?_⟩
      subst hn
      unfold sg
      cases n1 <;> simp <;> omega
    · have hb : (n1 == n2) = false := by simpa using hn
      rcases Nat.lt_or_ge (val xs) (val ys) with hl | hl
      · refine .inr (.inr ⟨hb, ⟨by omega, by rw [cmp3_lt hl]; omega⟩, ?_⟩)
        unfold sg
        cases n1 <;> cases n2 <;> simp at hn ⊢ <;> omega
      · have hc : cmp3 (val xs) (val ys) ≥ 0 := by
          rcases Nat.lt_or_ge (val ys) (val xs) with hg | hg
          · rw [cmp3_gt hg]; omega
          · rw [cmp3_eq (by omega)]; omega
        refine .inr (.inl ⟨hb, ⟨hl, hc⟩, ?_⟩)
        unfold sg
        cases n1 <;> cases n2 <;> simp at hn ⊢ <;> omega
  have HX := Lib.hid hX
  have HY := Lib.hid hY
  have HR := Lib.hid hR
  have HE := Lib.hid hE
  clear hX hY hR hE v1 v2
  rcases main with ⟨rfl, hz⟩ | ⟨hb, ⟨hle, hc⟩, hz⟩ | ⟨hb, ⟨hle, hc⟩, hz⟩
  · have hmk := fun A c w h => rmake_c n1 A c (cn (val xs + val ys)) w h hl1
    rw [val_cn, ← hz] at hmk
    generalize sg n1 (val xs) + sg n1 (val ys) = z at *
    generalize cn (val xs + val ys) = X at *
    clear hz hl1 hlx hly hs1 hs2 hcmp
    go_enter Tryd.func150, Tryd.ntmps150
    go_wp2_with fail
    have hX := HX.out
    have hY := HY.out
    have hR := HR.out
    have hE := HE.out
    clear HX HY HR HE
    generalize (((w.alloc (.cells #[.bool n1, .slice A1 xs.length c1] 50)).alloc (.cells #[.bool n1, .slice A2 ys.length c2] 50)).alloc (.cells #[.bool false, .slice none 0 0] 50)) = W at *
    obtain ⟨x0, x1, -⟩ := hX.facts
    obtain ⟨y0, y1, -⟩ := hY.facts
    have hlr := hR.lt
    go_region_held3 (fun w' => w'.cell? ⟨w.heap.size, 0, none⟩ = some (.bool n1) ∧ w'.cell? ⟨w.heap.size, 1, none⟩ = some (.slice A1 xs.length c1) ∧ w'.cell? ⟨w.heap.size + 1, 1, none⟩ = some (.slice A2 ys.length c2))
      (first | go_keep | (go_split_ands; refine ⟨?_, ?_, ?_⟩ <;> first | assumption | (refine Ext.cell (w := W) ?_ ?_ <;> assumption)))
      (first
        | (go_at_call 160; (with_reducible refine (hadd _ (h1.ext hE).drew (h2.ext hE).drew).mono ?_); rintro e w3 ⟨v, rfl, ho3, hb3⟩; obtain ⟨A3, c3, rfl, hr3⟩ := ho3.rd; have hE3 : Ext W w3 := (Ext.refl W).drew.tr hb3)
        | (go_at_call 115; (with_reducible refine (hmk A3 c3 _ hr3).mono ?_); rintro e w4 ⟨A4, c4, rfl, ho4, hb4⟩; have hE4 : Ext W w4 := hE3.tr hb4; obtain ⟨q0, q1, qf⟩ := (hR.ext hE4).facts; obtain ⟨k0, k1, -⟩ := ((hX.ext hE4).apart (g' := w.heap.size + 1 + 1) (by omega) (.bool (decide (z < 0))) (.slice A4 (cn z.natAbs).length c4)).facts; obtain ⟨l0, l1, -⟩ := ((hY.ext hE4).apart (g' := w.heap.size + 1 + 1) (by omega) (.bool (decide (z < 0))) (.slice A4 (cn z.natAbs).length c4)).facts))
    go_wp2
    have hl3 := (hR.ext hE3).lt
    have hR5 := (hR.ext hE4).put (.bool (decide (z < 0))) (.slice A4 (cn z.natAbs).length c4)
    obtain ⟨r0, r1, rf⟩ := hR5.facts
    refine bodyPost_ret (v := intV (decide (z < 0)) A4 (cn z.natAbs).length c4) (by simp [results, Tryd.results150, go_sem, r0, r1]) rfl ?_
    exact ⟨_, _, rfl, (ho4.puti (g := w.heap.size + 1 + 1) hl3 _ _).low (hE.tr hE3).size, (hE.tr hE4).puti (g := w.heap.size + 1 + 1) (by omega) _ _⟩
  · have hmk := fun A c w h => rmake_c n1 A c (cn (val xs - val ys)) w h hlx
    rw [val_cn, ← hz] at hmk
    have hsub := fun w h1 h2 => rsub_c A1 A2 c1 c2 xs ys w h1 h2 hle hs1 hs2
    generalize sg n1 (val xs) + sg n2 (val ys) = z at *
    generalize cn (val xs - val ys) = X at *
    generalize cmp3 (val xs) (val ys) = t at *
    have hc2 : decide (0 ≤ t) = true := by simpa using hc
    clear hz hl1 hlx hly hs1 hs2 hadd hle hc
    go_enter Tryd.func150, Tryd.ntmps150
    go_wp2_with fail
    have hX := HX.out
    have hY := HY.out
    have hR := HR.out
    have hE := HE.out
    clear HX HY HR HE
    generalize (((w.alloc (.cells #[.bool n1, .slice A1 xs.length c1] 50)).alloc (.cells #[.bool n2, .slice A2 ys.length c2] 50)).alloc (.cells #[.bool false, .slice none 0 0] 50)) = W at *
    refine (hcmp _ (h1.ext hE) (h2.ext hE)).mono ?_
    rintro e w2 ⟨rfl, hb2⟩
    replace hX := hX.ext hb2
    replace hY := hY.ext hb2
    replace hR := hR.ext hb2
    replace hE := hE.tr hb2
    obtain ⟨x0, x1, -⟩ := hX.facts
    obtain ⟨y0, y1, -⟩ := hY.facts
    have hlr := hR.lt
    go_wp2_with fail
    go_region_held3 (fun w' => w'.cell? ⟨w.heap.size, 0, none⟩ = some (.bool n1) ∧ w'.cell? ⟨w.heap.size, 1, none⟩ = some (.slice A1 xs.length c1) ∧ w'.cell? ⟨w.heap.size + 1, 1, none⟩ = some (.slice A2 ys.length c2))
      (first | go_keep | (go_split_ands; refine ⟨?_, ?_, ?_⟩ <;> first | assumption | (refine Ext.cell (w := w2) ?_ ?_ <;> assumption)))
      (first
        | (go_at_call 57; (with_reducible refine (hsub _ (h1.ext hE).drew (h2.ext hE).drew).mono ?_); rintro e w3 ⟨v, rfl, ho3, hb3⟩; obtain ⟨A3, c3, rfl, hr3⟩ := ho3.rd; have hE3 : Ext w2 w3 := (Ext.refl w2).drew.tr hb3)
        | (go_at_call 115; (with_reducible refine (hmk A3 c3 _ hr3).mono ?_); rintro e w4 ⟨A4, c4, rfl, ho4, hb4⟩; have hE4 : Ext w2 w4 := hE3.tr hb4; obtain ⟨q0, q1, qf⟩ := (hR.ext hE4).facts; obtain ⟨k0, k1, -⟩ := ((hX.ext hE4).apart (g' := w.heap.size + 1 + 1) (by omega) (.bool (decide (z < 0))) (.slice A4 (cn z.natAbs).length c4)).facts; obtain ⟨l0, l1, -⟩ := ((hY.ext hE4).apart (g' := w.heap.size + 1 + 1) (by omega) (.bool (decide (z < 0))) (.slice A4 (cn z.natAbs).length c4)).facts))
    go_wp2
    have hl3 := (hR.ext hE3).lt
    have hR5 := (hR.ext hE4).put (.bool (decide (z < 0))) (.slice A4 (cn z.natAbs).length c4)
    obtain ⟨r0, r1, rf⟩ := hR5.facts
    refine bodyPost_ret (v := intV (decide (z < 0)) A4 (cn z.natAbs).length c4) (by simp [results, Tryd.results150, go_sem, r0, r1]) rfl ?_
    exact ⟨_, _, rfl, (ho4.puti (g := w.heap.size + 1 + 1) hl3 _ _).low (hE.tr hE3).size, (hE.tr hE4).puti (g := w.heap.size + 1 + 1) (by omega) _ _⟩
  · have hmk := fun A c w h => rmake_c n2 A c (cn (val ys - val xs)) w h hly
    rw [val_cn, ← hz] at hmk
    have hsub := fun w h1 h2 => rsub_c A2 A1 c2 c1 ys xs w h1 h2 hle hs2 hs1
    generalize sg n1 (val xs) + sg n2 (val ys) = z at *
    generalize cn (val ys - val xs) = X at *
    generalize cmp3 (val xs) (val ys) = t at *
    have hc2 : decide (0 ≤ t) = false := by simpa using hc
    clear hz hl1 hlx hly hs1 hs2 hadd hle hc
    go_enter Tryd.func150, Tryd.ntmps150
    go_wp2_with fail
    have hX := HX.out
    have hY := HY.out
    have hR := HR.out
    have hE := HE.out
    clear HX HY HR HE
    generalize (((w.alloc (.cells #[.bool n1, .slice A1 xs.length c1] 50)).alloc (.cells #[.bool n2, .slice A2 ys.length c2] 50)).alloc (.cells #[.bool false, .slice none 0 0] 50)) = W at *
    refine (hcmp _ (h1.ext hE) (h2.ext hE)).mono ?_
    rintro e w2 ⟨rfl, hb2⟩
    replace hX := hX.ext hb2
    replace hY := hY.ext hb2
    replace hR := hR.ext hb2
    replace hE := hE.tr hb2
    obtain ⟨x0, x1, -⟩ := hX.facts
    obtain ⟨y0, y1, -⟩ := hY.facts
    have hlr := hR.lt
    go_wp2_with fail
    go_region_held3 (fun w' => w'.cell? ⟨w.heap.size, 1, none⟩ = some (.slice A1 xs.length c1) ∧ w'.cell? ⟨w.heap.size + 1, 0, none⟩ = some (.bool n2) ∧ w'.cell? ⟨w.heap.size + 1, 1, none⟩ = some (.slice A2 ys.length c2))
      (first | go_keep | (go_split_ands; refine ⟨?_, ?_, ?_⟩ <;> first | assumption | (refine Ext.cell (w := w2) ?_ ?_ <;> assumption)))
      (first
        | (go_at_call 57; (with_reducible refine (hsub _ (h2.ext hE).drew (h1.ext hE).drew).mono ?_); rintro e w3 ⟨v, rfl, ho3, hb3⟩; obtain ⟨A3, c3, rfl, hr3⟩ := ho3.rd; have hE3 : Ext w2 w3 := (Ext.refl w2).drew.tr hb3)
        | (go_at_call 115; (with_reducible refine (hmk A3 c3 _ hr3).mono ?_); rintro e w4 ⟨A4, c4, rfl, ho4, hb4⟩; have hE4 : Ext w2 w4 := hE3.tr hb4; obtain ⟨q0, q1, qf⟩ := (hR.ext hE4).facts; obtain ⟨k0, k1, -⟩ := ((hX.ext hE4).apart (g' := w.heap.size + 1 + 1) (by omega) (.bool (decide (z < 0))) (.slice A4 (cn z.natAbs).length c4)).facts; obtain ⟨l0, l1, -⟩ := ((hY.ext hE4).apart (g' := w.heap.size + 1 + 1) (by omega) (.bool (decide (z < 0))) (.slice A4 (cn z.natAbs).length c4)).facts))
    go_wp2
    have hl3 := (hR.ext hE3).lt
    have hR5 := (hR.ext hE4).put (.bool (decide (z < 0))) (.slice A4 (cn z.natAbs).length c4)
    obtain ⟨r0, r1, rf⟩ := hR5.facts
    refine bodyPost_ret (v := intV (decide (z < 0)) A4 (cn z.natAbs).length c4) (by simp [results, Tryd.results150, go_sem, r0, r1]) rfl ?_
    exact ⟨_, _, rfl, (ho4.puti (g := w.heap.size + 1 + 1) hl3 _ _).low (hE.tr hE3).size, (hE.tr hE4).puti (g := w.heap.size + 1 + 1) (by omega) _ _⟩
end Go.Proofs.YtgkojhhodncpbaaDoor
