/- The reference 12: Cmp of rational numbers. -/
import Derived.Test.YtgkojhhodncpbaaDoorU4
import Derived.Test.YtgkojhhodncpbaaDoorT3
set_option linter.unusedVariables false
set_option linter.unusedSimpArgs false
namespace Go.Proofs.YtgkojhhodncpbaaDoor
open Go.RowKit

theorem cn_len_mul {xs ys : List Nat} (h1 : W64 xs) (h2 : W64 ys) : (cn (val xs * val ys)).length ≤ xs.length + ys.length :=
  (cn_len_le _ _).2 (by rw [Nat.pow_add]; exact Nat.mul_lt_mul'' (val_lt h1) (val_lt h2))
set_option maxHeartbeats 2000000 in
set_option maxRecDepth 100000 in
theorem rcmp12_c (n1 n2 : Bool) (A1 A2 A3 A4 : Option Addr) (c1 c2 c3 c4 : Nat) (xs ds ys es : List Nat) (w : World) (h1 : Rd w A1 c1 xs) (h2 : Rd w A2 c2 ds) (h3 : Rd w A3 c3 ys) (h4 : Rd w A4 c4 es) (l1 : xs.length ≤ 1000000) (l2 : ds.length ≤ 1000000) (l3 : ys.length ≤ 1000000) (l4 : es.length ≤ 1000000) :
    Calls Tryd.prog 35 #[ratV n1 (.slice A1 xs.length c1) (.slice A2 ds.length c2), ratV n2 (.slice A3 ys.length c3) (.slice A4 es.length c4)] w fun e w' => e = .returned (.int .i64 (sgn (sg n1 (val xs) * (val es : Int) - sg n2 (val ys) * (val ds : Int)))) ∧ Ext w w' := by
  have hX := Bq.new w (.bool n1) (.slice A1 xs.length c1) (.slice A2 ds.length c2)
  have hY := Bq.new (w.alloc (.cells #[.bool n1, .slice A1 xs.length c1, .slice A2 ds.length c2] 52)) (.bool n2) (.slice A3 ys.length c3) (.slice A4 es.length c4)
  have hE := ((Ext.refl w).al (.cells #[.bool n1, .slice A1 xs.length c1, .slice A2 ds.length c2] 52)).al (.cells #[.bool n2, .slice A3 ys.length c3, .slice A4 es.length c4] 52)
  rw [World.size_alloc] at hY
  replace hX := hX.ext ((Ext.refl _).al (.cells #[.bool n2, .slice A3 ys.length c3, .slice A4 es.length c4] 52))
  have e1 : sg false (val es) = (val es : Int) := by unfold sg; simp
  have e2 : sg false (val ds) = (val ds : Int) := by unfold sg; simp
  have k1 : (cn (val es)).length ≤ es.length := (cn_len_le _ _).2 (val_lt h4.w64)
  have k2 : (cn (val ds)).length ≤ ds.length := (cn_len_le _ _).2 (val_lt h2.w64)
  have m1 := fun w h => rmake11_c false A4 c4 es w h (by omega)
  have m2 := fun w h => rmake11_c false A2 c2 ds w h (by omega)
  rw [e1] at m1
  rw [e2] at m2
  unfold IntR at m1 m2
  rw [Int.natAbs_natCast, decide_eq_false (show ¬ ((val es : Int) < 0) by omega)] at m1
  rw [Int.natAbs_natCast, decide_eq_false (show ¬ ((val ds : Int) < 0) by omega)] at m2
  have p1 := fun A c w h1 h2 => rmul11_c n1 false A1 A c1 c xs (cn (val es)) w h1 h2 (by omega) (by omega)
  have p2 := fun A c w h1 h2 => rmul11_c n2 false A3 A c3 c ys (cn (val ds)) w h1 h2 (by omega) (by omega)
  rw [val_cn, e1] at p1
  rw [val_cn, e2] at p2
  have q1 : (cn (sg n1 (val xs) * (val es : Int)).natAbs).length ≤ 10000000 := by
    rw [Int.natAbs_mul, sg_abs, Int.natAbs_natCast]
    have := cn_len_mul h1.w64 h4.w64
    omega
  have q2 : (cn (sg n2 (val ys) * (val ds : Int)).natAbs).length ≤ 10000000 := by
    rw [Int.natAbs_mul, sg_abs, Int.natAbs_natCast]
    have := cn_len_mul h3.w64 h2.w64
    omega
  generalize sg n1 (val xs) * (val es : Int) = z1 at *
  generalize sg n2 (val ys) * (val ds : Int) = z2 at *
  have hcm := fun A A' c c' w h h' => rcmp11_c (decide (z1 < 0)) (decide (z2 < 0)) A A' c c' (cn z1.natAbs) (cn z2.natAbs) w h h' q1 q2
  rw [val_cn, val_cn, sg_self, sg_self] at hcm
  unfold IntR at p1 p2
  generalize sgn (z1 - z2) = s at *
  generalize decide (z1 < 0) = b1 at *
  generalize decide (z2 < 0) = b2 at *
  generalize cn z1.natAbs = Z1 at *
  generalize cn z2.natAbs = Z2 at *
  generalize cn (val es) = ES at *
  generalize cn (val ds) = DS at *
  have HX := Lib.hid hX
  have HY := Lib.hid hY
  have HE := Lib.hid hE
  clear hX hY hE l1 l2 l3 l4 e1 e2 k1 k2 q1 q2
  go_enter Tryd.func35, Tryd.ntmps35
  go_wp2_with fail
  have hX := HX.out
  have hY := HY.out
  have hE := HE.out
  clear HX HY HE
  generalize ((w.alloc (.cells #[.bool n1, .slice A1 xs.length c1, .slice A2 ds.length c2] 52)).alloc (.cells #[.bool n2, .slice A3 ys.length c3, .slice A4 es.length c4] 52)) = W at *
  obtain ⟨x0, x1, x2, -⟩ := hX.facts
  obtain ⟨y0, y1, y2, -⟩ := hY.facts
  go_region_held3 (fun w' => w'.cell? ⟨w.heap.size, 0, none⟩ = some (.bool n1) ∧ w'.cell? ⟨w.heap.size, 1, none⟩ = some (.slice A1 xs.length c1) ∧ w'.cell? ⟨w.heap.size, 2, none⟩ = some (.slice A2 ds.length c2) ∧
      w'.cell? ⟨w.heap.size + 1, 0, none⟩ = some (.bool n2) ∧ w'.cell? ⟨w.heap.size + 1, 1, none⟩ = some (.slice A3 ys.length c3) ∧ w'.cell? ⟨w.heap.size + 1, 2, none⟩ = some (.slice A4 es.length c4))
    (first | go_keep | (go_split_ands; refine ⟨?_, ?_, ?_, ?_, ?_, ?_⟩ <;> first | assumption | (refine Ext.cell (w := W) ?_ ?_ <;> assumption)))
    (first
      | (go_at_call 76; (with_reducible refine (m1 _ (h4.ext hE).drew).mono ?_); rintro e w1 ⟨B1, d1, rfl, ho1, hb1⟩; obtain ⟨-, hr1⟩ := ho1.rdAt; have hE1 : Ext W w1 := (Ext.refl W).drew.tr hb1)
      | (go_at_call 75; (with_reducible refine (p1 B1 d1 _ (h1.ext (hE.tr hE1)) hr1).mono ?_); rintro e w2 ⟨B2, d2, rfl, ho2, hb2⟩; obtain ⟨-, hr2⟩ := ho2.rdAt; have hE2 : Ext W w2 := hE1.tr hb2)
      | (go_at_call 76; (with_reducible refine (m2 _ (h2.ext (hE.tr hE2))).mono ?_); rintro e w3 ⟨B3, d3, rfl, ho3, hb3⟩; obtain ⟨-, hr3⟩ := ho3.rdAt; have hE3 : Ext W w3 := hE2.tr hb3; have hr23 := hr2.ext hb3)
      | (go_at_call 75; (with_reducible refine (p2 B3 d3 _ (h3.ext (hE.tr hE3)) hr3).mono ?_); rintro e w4 ⟨B4, d4, rfl, ho4, hb4⟩; obtain ⟨-, hr4⟩ := ho4.rdAt; have hE4 : Ext W w4 := hE3.tr hb4; have hr24 := hr23.ext hb4)
      | (go_at_call 74; (with_reducible refine (hcm B2 B4 d2 d4 _ hr24 hr4).mono ?_); rintro e w5 ⟨rfl, hb5⟩; have hE5 : Ext W w5 := hE4.tr hb5))
  go_wp2
  go_ret
  exact ⟨rfl, hE.tr hE5⟩
end Go.Proofs.YtgkojhhodncpbaaDoor
