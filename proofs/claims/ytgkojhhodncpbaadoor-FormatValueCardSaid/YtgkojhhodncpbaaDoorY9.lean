/- the reference's Rat and Value of a float. the reference's Value of a float. -/
import Derived.Test.YtgkojhhodncpbaaDoorY7
import Derived.Test.YtgkojhhodncpbaaDoorS4
import Derived.Test.YtgkojhhodncpbaaDoorT3
set_option linter.unusedVariables false
set_option linter.unusedSimpArgs false
namespace Go.Proofs.YtgkojhhodncpbaaDoor
open Go.RowKit
attribute [local go_sem ↓] Go.wp_at_zero Go.wp_at_succ

/-- The box of a reference's float, and that of a rational number. -/
theorem boxesRQ (w : World) (k e : Int) (neg : Bool) (v : Value) : ∀ W, W = ((w.alloc (.cells #[.int .i64 k, .bool neg, .int .i64 e, v] 45)).alloc (.cells #[.bool false, .slice none 0 0, .slice none 0 0] 52)) →
    Br W w.heap.size (.int .i64 k) (.bool neg) (.int .i64 e) v ∧ Bq W (w.heap.size + 1) (.bool false) (.slice none 0 0) (.slice none 0 0) ∧ Ext w W := by
  rintro W rfl
  have h1 := (Ext.refl w).al (.cells #[.int .i64 k, .bool neg, .int .i64 e, v] 45)
  have x2 := Bq.new (w.alloc (.cells #[.int .i64 k, .bool neg, .int .i64 e, v] 45)) (.bool false) (.slice none 0 0) (.slice none 0 0)
  rw [World.size_alloc] at x2
  exact ⟨(Br.new w _ _ _ _).ext ((Ext.refl _).al _), x2, h1.al _⟩
theorem Br.apartq {w : World} {g g' : Nat} {a b c d : Value} (x : Br w g a b c d) (hne : g ≠ g') (a' b' c' : Value) : Br (((w.setCell ⟨g', 0, none⟩ a').setCell ⟨g', 1, none⟩ b').setCell ⟨g', 2, none⟩ c') g a b c d := by
  refine ⟨?_⟩
  rw [Below.heap_setCell _ _ _ _ (by simpa using hne), Below.heap_setCell _ _ _ _ (by simpa using hne), Below.heap_setCell _ _ _ _ (by simpa using hne)]
  exact x.h
set_option maxHeartbeats 2000000 in
set_option maxRecDepth 100000 in
theorem rrat_zero (k e : Int) (neg : Bool) (A : Option Addr) (c n : Nat) (w : World) (hk : k ≠ 1) : Calls Tryd.prog 62 #[flV k neg e (.slice A n c)] w (RatN w false 0 1) := by
  obtain ⟨hX, hY, hE⟩ := boxesRQ w k e neg (.slice A n c) _ rfl
  have hfr := fun w => rfrom12_zero w
  have hb : (k != 1) = true := by rw [bne_iff_ne]; exact hk
  have HY := Lib.hid hY
  have HE := Lib.hid hE
  clear hX hY hE hk
  go_enter Tryd.func62, Tryd.ntmps62
  go_wp2_with fail
  have hE := HE.out
  refine (hfr _).mono ?_
  rintro z w1 ⟨v1, v2, rfl, ho1, ho2, hb1⟩
  obtain ⟨A3, c3, rfl, -⟩ := ho1.rd
  obtain ⟨B3, e3, rfl, -⟩ := ho2.rd
  have hY1 := HY.out.ext hb1
  have hlt := HY.out.lt
  have hs0 := hE.size
  obtain ⟨b0, b1, b2, bf⟩ := hY1.facts
  have hR := hY1.put (.bool false) (.slice A3 (cn 0).length c3) (.slice B3 (cn 1).length e3)
  have qn := (ho1.putq (g := w.heap.size + 1) hlt (.bool false) (.slice A3 (cn 0).length c3) (.slice B3 (cn 1).length e3)).low (b := w.heap.size) hs0
  have qd := (ho2.putq (g := w.heap.size + 1) hlt (.bool false) (.slice A3 (cn 0).length c3) (.slice B3 (cn 1).length e3)).low (b := w.heap.size) hs0
  have qE := (hE.tr hb1).putq (g := w.heap.size + 1) (by omega) (.bool false) (.slice A3 (cn 0).length c3) (.slice B3 (cn 1).length e3)
  have HR := Lib.hid hR
  have QN := Lib.hid qn
  have QD := Lib.hid qd
  have QE := Lib.hid qE
  clear hR qn qd qE
  go_wp2
  obtain ⟨m0, m1, m2, -⟩ := HR.out.facts
  refine bodyPost_ret (v := ratV false (.slice A3 (cn 0).length c3) (.slice B3 (cn 1).length e3)) (by simp [results, Tryd.results62, go_sem, m0, m1, m2]) rfl ?_
  exact ⟨_, _, rfl, QN.out, QD.out, QE.out⟩
section
variable (e : Int) (neg : Bool) (A : Option Addr) (c : Nat) (xs : List Nat) (M : Nat) (E : Int) (hv0 : val xs / 2 ^ tz (val xs) = M) (hE0 : e + tz (val xs) = E) (hM : 0 < M) (hl : xs.length ≤ 40) (he1 : -1048576 ≤ e) (he2 : e ≤ 1048576)
set_option maxHeartbeats 4000000 in
set_option maxRecDepth 100000 in
include hv0 hE0 hM hl he1 he2 in
theorem rrat_neg (hneg : E < 0) (hE1 : -1048576 ≤ E) (w : World) (h : Rd w A c xs) : Calls Tryd.prog 62 #[flV 1 neg e (.slice A xs.length c)] w (RatN w neg M (2 ^ (-E).toNat)) := by
  obtain ⟨hX, hY, hE⟩ := boxesRQ w 1 e neg (.slice A xs.length c) _ rfl
  have hod := fun w h => rodd_c 1 e neg A c xs w h (by omega) he1 he2
  rw [hv0, hE0] at hod
  have hml : (cn M).length ≤ 40 := by rw [← hv0]; exact Nat.le_trans (cn_len_of_le h.w64 (Nat.div_le_self _ _)) hl
  have hmk := fun A c w h => rmk11 neg M (fun _ => hM) (by omega) A c w h
  have hfw := fun w => rfrom_c 1 w (by decide +kernel)
  have hlf := fun A c w h => rleft_i A c (cn 1) (-E) w h (by omega) (by omega) (by rw [cn_one]; simp)
  rw [val_cn, Nat.one_mul] at hlf
  have hd : decide (E < 0) = true := by rw [decide_eq_true_iff]; exact hneg
  have hw : IntKind.i64.wrap (-E) = -E := by rw [IntKind.wrap_i64]; omega
  generalize 2 ^ (-E).toNat = D at *
  have HX := Lib.hid hX
  have HY := Lib.hid hY
  have HE := Lib.hid hE
  clear hX hY hE hv0 hE0 hM hl hml
  go_enter Tryd.func62, Tryd.ntmps62
  go_wp2_with fail
  have hX := HX.out
  have hE := HE.out
  generalize ((w.alloc (.cells #[.int .i64 1, .bool neg, .int .i64 e, .slice A xs.length c] 45)).alloc (.cells #[.bool false, .slice none 0 0, .slice none 0 0] 52)) = W at *
  refine (hod _ (h.ext hE)).mono ?_
  rintro z w1 ⟨v, rfl, ho1, hb1⟩
  obtain ⟨A1, c1, rfl, hr1⟩ := ho1.rd
  obtain ⟨x0, x1, x2, x3, -⟩ := (hX.ext hb1).facts
  go_wp2_with fail
  refine (hmk _ _ _ hr1).mono ?_
  rintro z w2 ⟨A2, c2, rfl, ho2, hb2⟩
  clear x0 x1 x2 x3
  go_wp2_with fail
  refine (hfw _).mono ?_
  rintro z w3 ⟨v, rfl, ho3, hb3⟩
  obtain ⟨A3, c3, rfl, hr3⟩ := ho3.rd
  go_wp2_with fail
  refine (hlf _ _ _ hr3).mono ?_
  rintro z w4 ⟨v, rfl, ho4, hb4⟩
  obtain ⟨A4, c4, rfl, -⟩ := ho4.rd
  have hB := (hb1.tr hb2).tr (hb3.tr hb4)
  have hY1 := HY.out.ext hB
  have hlt := HY.out.lt
  have hs0 := hE.size
  have hs1 := hb1.size
  have hs3 := ((hb1.tr hb2).tr hb3).size
  obtain ⟨b0, b1, b2, bf⟩ := hY1.facts
  have hR := hY1.put (.bool neg) (.slice A2 (cn M).length c2) (.slice A4 (cn D).length c4)
  have qn := ((ho2.ext (hb3.tr hb4)).putq (g := w.heap.size + 1) (by omega) (.bool neg) (.slice A2 (cn M).length c2) (.slice A4 (cn D).length c4)).low (b := w.heap.size) (by omega)
  have qd := (ho4.putq (g := w.heap.size + 1) (by omega) (.bool neg) (.slice A2 (cn M).length c2) (.slice A4 (cn D).length c4)).low (b := w.heap.size) (by omega)
  have qE := (hE.tr hB).putq (g := w.heap.size + 1) (by omega) (.bool neg) (.slice A2 (cn M).length c2) (.slice A4 (cn D).length c4)
  have HR := Lib.hid hR
  have QN := Lib.hid qn
  have QD := Lib.hid qd
  have QE := Lib.hid qE
  clear hR qn qd qE
  go_wp2
  obtain ⟨m0, m1, m2, -⟩ := HR.out.facts
  refine bodyPost_ret (v := ratV neg (.slice A2 (cn M).length c2) (.slice A4 (cn D).length c4)) (by simp [results, Tryd.results62, go_sem, m0, m1, m2]) rfl ?_
  exact ⟨_, _, rfl, QN.out, QD.out, QE.out⟩
set_option maxHeartbeats 4000000 in
set_option maxRecDepth 100000 in
include hv0 hE0 hM hl he1 he2 in
theorem rrat_pos (hpos : 0 ≤ E) (hE1 : E ≤ 1048576) (hl2 : (cn (M * 2 ^ E.toNat)).length ≤ 4096) (w : World) (h : Rd w A c xs) : Calls Tryd.prog 62 #[flV 1 neg e (.slice A xs.length c)] w (RatN w neg (M * 2 ^ E.toNat) 1) := by
  obtain ⟨hX, hY, hE⟩ := boxesRQ w 1 e neg (.slice A xs.length c) _ rfl
  have hod := fun w h => rodd_c 1 e neg A c xs w h (by omega) he1 he2
  rw [hv0, hE0] at hod
  have hml : (cn M).length ≤ 40 := by rw [← hv0]; exact Nat.le_trans (cn_len_of_le h.w64 (Nat.div_le_self _ _)) hl
  have hp : 0 < M * 2 ^ E.toNat := Nat.mul_pos hM (Nat.two_pow_pos _)
  have hmk := fun A c w h => rmk11 neg (M * 2 ^ E.toNat) (fun _ => hp) (by omega) A c w h
  have hlf := fun A c w h => rleft_i A c (cn M) E w h (by omega) (by omega) (by omega)
  rw [val_cn] at hlf
  have hwh := fun A c w h => rwhole_c neg (M * 2 ^ E.toNat) (fun _ => hp) (by omega) A c w h
  have hd : decide (E < 0) = false := by rw [decide_eq_false_iff_not]; omega
  clear hp
  generalize M * 2 ^ E.toNat = D at *
  have HX := Lib.hid hX
  have HY := Lib.hid hY
  have HE := Lib.hid hE
  clear hX hY hE hv0 hE0 hM hl hml hl2
  go_enter Tryd.func62, Tryd.ntmps62
  go_wp2_with fail
  have hX := HX.out
  have hE := HE.out
  generalize ((w.alloc (.cells #[.int .i64 1, .bool neg, .int .i64 e, .slice A xs.length c] 45)).alloc (.cells #[.bool false, .slice none 0 0, .slice none 0 0] 52)) = W at *
  refine (hod _ (h.ext hE)).mono ?_
  rintro z w1 ⟨v, rfl, ho1, hb1⟩
  obtain ⟨A1, c1, rfl, hr1⟩ := ho1.rd
  have hX1 := hX.ext hb1
  have hY1 := HY.out.ext hb1
  obtain ⟨x0, x1, x2, x3, -⟩ := hX1.facts
  have hlt := HY.out.lt
  have hs0 := hE.size
  have hs1 := hb1.size
  go_wp2_with fail
  go_region_held3 (fun w' => w'.cell? ⟨w.heap.size, 1, none⟩ = some (.bool neg))
    (first | go_keep | assumption | (refine Ext.cell (w := w1) ?_ ?_ <;> assumption))
    (first
      | (go_at_call 58; (with_reducible refine (hlf A1 c1 _ hr1.drew).mono ?_); rintro z w4 ⟨v, rfl, ho4, hb4⟩; obtain ⟨A4, c4, rfl, hr4⟩ := ho4.rd; have hE4 : Ext w1 w4 := (Ext.refl w1).drew.tr hb4)
      | (go_at_call 76; (with_reducible refine (hmk A4 c4 _ hr4).mono ?_); rintro z w5 ⟨A5, c5, rfl, ho5, hb5⟩; have hr5 := ho5.rdAt.2; have hE5 : Ext w1 w5 := hE4.tr hb5)
      | (go_at_call 104; (with_reducible refine (hwh A5 c5 _ hr5).mono ?_); rintro z w6 ⟨v1, v2, rfl, ho6, ho7, hb6⟩; obtain ⟨A6, c6, rfl, -⟩ := ho6.rd; obtain ⟨A7, c7, rfl, -⟩ := ho7.rd; have hE6 : Ext w1 w6 := hE5.tr hb6; have hY6 := hY1.ext hE6; obtain ⟨b0, b1, b2, bf⟩ := hY6.facts; obtain ⟨i0, i1, i2, i3, -⟩ := ((hX1.ext hE6).apartq (g' := w.heap.size + 1) (by omega) (.bool neg) (.slice A6 (cn D).length c6) (.slice A7 (cn 1).length c7)).facts))
  have hs5 := hE5.size
  have hR := hY6.put (.bool neg) (.slice A6 (cn D).length c6) (.slice A7 (cn 1).length c7)
  have qn := (ho6.putq (g := w.heap.size + 1) (by omega) (.bool neg) (.slice A6 (cn D).length c6) (.slice A7 (cn 1).length c7)).low (b := w.heap.size) (by omega)
  have qd := (ho7.putq (g := w.heap.size + 1) (by omega) (.bool neg) (.slice A6 (cn D).length c6) (.slice A7 (cn 1).length c7)).low (b := w.heap.size) (by omega)
  have qE := ((hE.tr hb1).tr hE6).putq (g := w.heap.size + 1) (by omega) (.bool neg) (.slice A6 (cn D).length c6) (.slice A7 (cn 1).length c7)
  have HR := Lib.hid hR
  have QN := Lib.hid qn
  have QD := Lib.hid qd
  have QE := Lib.hid qE
  clear hR qn qd qE
  go_wp2
  obtain ⟨m0, m1, m2, -⟩ := HR.out.facts
  refine bodyPost_ret (v := ratV neg (.slice A6 (cn D).length c6) (.slice A7 (cn 1).length c7)) (by simp [results, Tryd.results62, go_sem, m0, m1, m2]) rfl ?_
  exact ⟨_, _, rfl, QN.out, QD.out, QE.out⟩
end
end Go.Proofs.YtgkojhhodncpbaaDoor
namespace Go.Proofs.YtgkojhhodncpbaaDoor
open Go.RowKit
attribute [local go_sem ↓] Go.wp_at_zero Go.wp_at_succ

/-- The result box of Value, where it hands back an error. -/
theorem Bq.zero {w W w1 : World} (hY : Bq W (w.heap.size + 1) (.bool false) (.slice none 0 0) (.slice none 0 0)) (hE : Ext w W) (hb : Ext W w1) (ec : Int) :
    Bq (((w1.setCell ⟨w.heap.size + 1, 0, none⟩ (.bool false)).setCell ⟨w.heap.size + 1, 1, none⟩ (.slice none 0 0)).setCell ⟨w.heap.size + 1, 2, none⟩ (.slice none 0 0)) (w.heap.size + 1) (.bool false) (.slice none 0 0) (.slice none 0 0) ∧
    RatR w ec false 0 0 (.returned (.tuple #[ratV false (.slice none 0 0) (.slice none 0 0), .int .i64 ec])) (((w1.setCell ⟨w.heap.size + 1, 0, none⟩ (.bool false)).setCell ⟨w.heap.size + 1, 1, none⟩ (.slice none 0 0)).setCell ⟨w.heap.size + 1, 2, none⟩ (.slice none 0 0)) :=
  ⟨(hY.ext hb).put _ _ _, RatR.none ((hE.tr hb).putq (by omega) _ _ _) _⟩
theorem canon_fin_bl' {neg : Bool} {e : Int} {xs : List Nat} {f : Fl} (hc : canon 1 neg e (val xs) = some f) (hr : W64 xs) (hl : xs.length ≤ 4096) : bl f.mag ≤ 262144 ∧ (cn f.mag).length ≤ 4096 :=
  canon_fin_bl (a := ⟨1, neg, e, none, 0, xs⟩) hc hr hl
section
variable (k e : Int) (neg : Bool) (A : Option Addr) (c : Nat) (xs : List Nat) (w : World) (h : Rd w A c xs) (hl : xs.length ≤ 40)
set_option maxHeartbeats 2000000 in
set_option maxRecDepth 100000 in
include h hl in
theorem rval_none (hc : canon k neg e (val xs) = none) : Calls Tryd.prog 28 #[flV k neg e (.slice A xs.length c)] w (RatR w 151 false 0 0) := by
  obtain ⟨hX, hY, hE⟩ := boxesRQ w k e neg (.slice A xs.length c) _ rfl
  have hlg := fun w => rlargef_c k e neg A xs.length c w
  rw [show decide (4096 < xs.length) = false by rw [decide_eq_false_iff_not]; omega] at hlg
  have hgd := fun w h => rgood_c k e neg A c xs w h (by omega)
  rw [hc] at hgd
  simp only [Option.isSome_none] at hgd
  have HX := Lib.hid hX
  have HY := Lib.hid hY
  have HE := Lib.hid hE
  clear hX hY hE hc hl
  go_enter Tryd.func28, Tryd.ntmps28
  go_wp2_with fail
  have hX := HX.out
  have hY := HY.out
  have hE := HE.out
  generalize ((w.alloc (.cells #[.int .i64 k, .bool neg, .int .i64 e, .slice A xs.length c] 45)).alloc (.cells #[.bool false, .slice none 0 0, .slice none 0 0] 52)) = W at *
  refine (hlg _).mono ?_
  rintro z w1 ⟨rfl, hb1⟩
  obtain ⟨x0, x1, x2, x3, -⟩ := (hX.ext hb1).facts
  go_wp2_with fail
  refine (hgd _ (h.ext (hE.tr hb1))).mono ?_
  rintro z w2 ⟨rfl, hb2⟩
  have hb := hb1.tr hb2
  obtain ⟨y0, y1, y2, yf⟩ := (hY.ext hb).facts
  obtain ⟨hR, hF⟩ := Bq.zero hY hE hb 151
  have HR := Lib.hid hR
  have HF := Lib.hid hF
  clear hR hF x0 x1 x2 x3
  go_wp2
  obtain ⟨m0, m1, m2, -⟩ := HR.out.facts
  refine bodyPost_ret (v := .tuple #[ratV false (.slice none 0 0) (.slice none 0 0), .int .i64 151]) (by simp [results, Tryd.results28, go_sem, m0, m1, m2]) rfl ?_
  exact HF.out
set_option maxHeartbeats 2000000 in
set_option maxRecDepth 100000 in
include h hl in
theorem rval_inf (f : Fl) (hc : canon k neg e (val xs) = some f) (hk : k = 2 ∨ k = 3) : Calls Tryd.prog 28 #[flV k neg e (.slice A xs.length c)] w (RatR w 4 false 0 0) := by
  have hgd := fun w h => rgood_c k e neg A c xs w h (by omega)
  rw [hc] at hgd
  simp only [Option.isSome_some] at hgd
  obtain ⟨hX, hY, hE⟩ := boxesRQ w k e neg (.slice A xs.length c) _ rfl
  have hlg := fun w => rlargef_c k e neg A xs.length c w
  rw [show decide (4096 < xs.length) = false by rw [decide_eq_false_iff_not]; omega] at hlg
  rcases hk with rfl | rfl
  all_goals
    have HX := Lib.hid hX
    have HY := Lib.hid hY
    have HE := Lib.hid hE
    clear hX hY hE hc hl
    go_enter Tryd.func28, Tryd.ntmps28
    go_wp2_with fail
    have hX := HX.out
    have hY := HY.out
    have hE := HE.out
    refine (hlg _).mono ?_
    rintro z w1 ⟨rfl, hb1⟩
    obtain ⟨x0, x1, x2, x3, -⟩ := (hX.ext hb1).facts
    go_wp2_with fail
    refine (hgd _ (h.ext (hE.tr hb1))).mono ?_
    rintro z w2 ⟨rfl, hb2⟩
    have hb := hb1.tr hb2
    clear x0 x1 x2 x3
    obtain ⟨x0, x1, x2, x3, -⟩ := (hX.ext hb).facts
    obtain ⟨y0, y1, y2, yf⟩ := (hY.ext hb).facts
    obtain ⟨hR, hF⟩ := Bq.zero hY hE hb 4
    have HR := Lib.hid hR
    have HF := Lib.hid hF
    clear hR hF
    go_wp2
    obtain ⟨m0, m1, m2, -⟩ := HR.out.facts
    refine bodyPost_ret (v := .tuple #[ratV false (.slice none 0 0) (.slice none 0 0), .int .i64 4]) (by simp [results, Tryd.results28, go_sem, m0, m1, m2]) rfl ?_
    exact HF.out
set_option maxHeartbeats 2000000 in
set_option maxRecDepth 100000 in
include h hl in
theorem rval_zero (f : Fl) (hc : canon 0 neg e (val xs) = some f) : Calls Tryd.prog 28 #[flV 0 neg e (.slice A xs.length c)] w (RatR w 0 false 0 1) := by
  have hgd := fun w h => rgood_c 0 e neg A c xs w h (by omega)
  rw [hc] at hgd
  simp only [Option.isSome_some] at hgd
  obtain ⟨hX, hY, hE⟩ := boxesRQ w 0 e neg (.slice A xs.length c) _ rfl
  have hlg := fun w => rlargef_c 0 e neg A xs.length c w
  rw [show decide (4096 < xs.length) = false by rw [decide_eq_false_iff_not]; omega] at hlg
  have hrt := fun w => rrat_zero 0 e neg A c xs.length w (by decide)
  have HX := Lib.hid hX
  have HY := Lib.hid hY
  have HE := Lib.hid hE
  clear hX hY hE hc hl
  go_enter Tryd.func28, Tryd.ntmps28
  go_wp2_with fail
  have hX := HX.out
  have hY := HY.out
  have hE := HE.out
  generalize ((w.alloc (.cells #[.int .i64 0, .bool neg, .int .i64 e, .slice A xs.length c] 45)).alloc (.cells #[.bool false, .slice none 0 0, .slice none 0 0] 52)) = W at *
  refine (hlg _).mono ?_
  rintro z w1 ⟨rfl, hb1⟩
  obtain ⟨x0, x1, x2, x3, -⟩ := (hX.ext hb1).facts
  go_wp2_with fail
  refine (hgd _ (h.ext (hE.tr hb1))).mono ?_
  rintro z w2 ⟨rfl, hb2⟩
  have hb := hb1.tr hb2
  clear x0 x1 x2 x3
  obtain ⟨x0, x1, x2, x3, -⟩ := (hX.ext hb).facts
  go_wp2_with fail
  refine (hrt _).mono ?_
  rintro z w3 ⟨v1, v2, rfl, ho1, ho2, hb3⟩
  obtain ⟨A3, c3, rfl, -⟩ := ho1.rd
  obtain ⟨B3, e3, rfl, -⟩ := ho2.rd
  have hY1 := hY.ext (hb.tr hb3)
  have hlt := hY.lt
  have hs0 := hE.size
  have hs1 := hb.size
  obtain ⟨b0, b1, b2, bf⟩ := hY1.facts
  have hR := hY1.put (.bool false) (.slice A3 (cn 0).length c3) (.slice B3 (cn 1).length e3)
  have qn := (ho1.putq (g := w.heap.size + 1) (by omega) (.bool false) (.slice A3 (cn 0).length c3) (.slice B3 (cn 1).length e3)).low (b := w.heap.size) (by omega)
  have qd := (ho2.putq (g := w.heap.size + 1) (by omega) (.bool false) (.slice A3 (cn 0).length c3) (.slice B3 (cn 1).length e3)).low (b := w.heap.size) (by omega)
  have qE := (hE.tr (hb.tr hb3)).putq (g := w.heap.size + 1) (by omega) (.bool false) (.slice A3 (cn 0).length c3) (.slice B3 (cn 1).length e3)
  have HR := Lib.hid hR
  have QN := Lib.hid qn
  have QD := Lib.hid qd
  have QE := Lib.hid qE
  clear hR qn qd qE x0 x1 x2 x3
  go_wp2
  obtain ⟨m0, m1, m2, -⟩ := HR.out.facts
  refine bodyPost_ret (v := .tuple #[ratV false (.slice A3 (cn 0).length c3) (.slice B3 (cn 1).length e3), .int .i64 0]) (by simp [results, Tryd.results28, go_sem, m0, m1, m2]) rfl ?_
  exact ⟨_, _, rfl, QN.out, QD.out, QE.out⟩
set_option maxHeartbeats 4000000 in
set_option maxRecDepth 100000 in
include h hl in
theorem rval_big (f : Fl) (hc : canon 1 neg e (val xs) = some f) (hbg : (0 ≤ f.exp ∧ 262144 < (bl f.mag : Int) + f.exp) ∨ (f.exp < 0 ∧ 262144 < 1 - f.exp)) : Calls Tryd.prog 28 #[flV 1 neg e (.slice A xs.length c)] w (RatR w 2 false 0 0) := by
  have hgd := fun w h => rgood_c 1 e neg A c xs w h (by omega)
  rw [hc] at hgd
  simp only [Option.isSome_some] at hgd
  obtain ⟨hX, hY, hE⟩ := boxesRQ w 1 e neg (.slice A xs.length c) _ rfl
  have hlg := fun w => rlargef_c 1 e neg A xs.length c w
  rw [show decide (4096 < xs.length) = false by rw [decide_eq_false_iff_not]; omega] at hlg
  have hok := canon_ok hc
  have hbl := canon_fin_bl' hc h.w64 (by omega)
  obtain ⟨hf, hp, he, he4⟩ := canon_fin hc
  have hod := fun w h => rodd_c 1 e neg A c xs w h (by omega) (by omega) (by omega)
  have hlo := hok.lo
  have hhi := hok.hi
  rw [hf] at hbg hbl hlo hhi
  simp only at hbg hbl hlo hhi
  generalize e + tz (val xs) = E at *
  generalize val xs / 2 ^ tz (val xs) = M at *
  have hml : (cn M).length ≤ 4096 := hbl.2
  have hln := fun A c w h => rlen_c A c (cn M) w h (by omega)
  rw [val_cn] at hln
  have hb1' := hbl.1
  generalize bl M = ℓ at *
  have HX := Lib.hid hX
  have HY := Lib.hid hY
  have HE := Lib.hid hE
  clear hX hY hE hc hl hok hf hp he he4 hbl hml
  have hw1 : IntKind.i64.wrap ((ℓ : Int) + E) = (ℓ : Int) + E := by rw [IntKind.wrap_i64]; omega
  have hw2 : IntKind.i64.wrap (1 - E) = 1 - E := by rw [IntKind.wrap_i64]; omega
  rcases hbg with ⟨g1, g2⟩ | ⟨g1, g2⟩
  · have d1 : decide (0 ≤ E) = true := by rw [decide_eq_true_iff]; exact g1
    have d2 : decide (262144 < (ℓ : Int) + E) = true := by rw [decide_eq_true_iff]; exact g2
    go_enter Tryd.func28, Tryd.ntmps28
    go_wp2_with fail
    have hX := HX.out
    have hY := HY.out
    have hE := HE.out
    generalize ((w.alloc (.cells #[.int .i64 1, .bool neg, .int .i64 e, .slice A xs.length c] 45)).alloc (.cells #[.bool false, .slice none 0 0, .slice none 0 0] 52)) = W at *
    refine (hlg _).mono ?_
    rintro z w1 ⟨rfl, hb1⟩
    obtain ⟨x0, x1, x2, x3, -⟩ := (hX.ext hb1).facts
    go_wp2_with fail
    refine (hgd _ (h.ext (hE.tr hb1))).mono ?_
    rintro z w2 ⟨rfl, hb2⟩
    have hb := hb1.tr hb2
    clear x0 x1 x2 x3
    obtain ⟨x0, x1, x2, x3, -⟩ := (hX.ext hb).facts
    go_wp2_with fail
    refine (hod _ (h.ext (hE.tr hb))).mono ?_
    rintro z w3 ⟨v, rfl, ho3, hb3⟩
    obtain ⟨A3, c3, rfl, hr3⟩ := ho3.rd
    go_wp2_with fail
    refine (hln _ _ _ hr3).mono ?_
    rintro z w4 ⟨rfl, rfl⟩
    have hb4 := hb.tr hb3
    obtain ⟨y0, y1, y2, yf⟩ := (hY.ext hb4).facts
    obtain ⟨hR, hF⟩ := Bq.zero hY hE hb4 2
    have HR := Lib.hid hR
    have HF := Lib.hid hF
    clear hR hF x0 x1 x2 x3
    go_wp2
    obtain ⟨m0, m1, m2, -⟩ := HR.out.facts
    refine bodyPost_ret (v := .tuple #[ratV false (.slice none 0 0) (.slice none 0 0), .int .i64 2]) (by simp [results, Tryd.results28, go_sem, m0, m1, m2]) rfl ?_
    exact HF.out
  · have d1 : decide (0 ≤ E) = false := by rw [decide_eq_false_iff_not]; omega
    have d2 : decide (E < 0) = true := by rw [decide_eq_true_iff]; exact g1
    have d3 : decide (262144 < 1 - E) = true := by rw [decide_eq_true_iff]; exact g2
    go_enter Tryd.func28, Tryd.ntmps28
    go_wp2_with fail
    have hX := HX.out
    have hY := HY.out
    have hE := HE.out
    generalize ((w.alloc (.cells #[.int .i64 1, .bool neg, .int .i64 e, .slice A xs.length c] 45)).alloc (.cells #[.bool false, .slice none 0 0, .slice none 0 0] 52)) = W at *
    refine (hlg _).mono ?_
    rintro z w1 ⟨rfl, hb1⟩
    obtain ⟨x0, x1, x2, x3, -⟩ := (hX.ext hb1).facts
    go_wp2_with fail
    refine (hgd _ (h.ext (hE.tr hb1))).mono ?_
    rintro z w2 ⟨rfl, hb2⟩
    have hb := hb1.tr hb2
    clear x0 x1 x2 x3
    obtain ⟨x0, x1, x2, x3, -⟩ := (hX.ext hb).facts
    go_wp2_with fail
    refine (hod _ (h.ext (hE.tr hb))).mono ?_
    rintro z w3 ⟨v, rfl, ho3, hb3⟩
    obtain ⟨A3, c3, rfl, hr3⟩ := ho3.rd
    have hb4 := hb.tr hb3
    obtain ⟨y0, y1, y2, yf⟩ := (hY.ext hb4).facts
    obtain ⟨hR, hF⟩ := Bq.zero hY hE hb4 2
    have HR := Lib.hid hR
    have HF := Lib.hid hF
    clear hR hF x0 x1 x2 x3
    go_wp2
    obtain ⟨m0, m1, m2, -⟩ := HR.out.facts
    refine bodyPost_ret (v := .tuple #[ratV false (.slice none 0 0) (.slice none 0 0), .int .i64 2]) (by simp [results, Tryd.results28, go_sem, m0, m1, m2]) rfl ?_
    exact HF.out
set_option maxHeartbeats 4000000 in
set_option maxRecDepth 100000 in
include h hl in
theorem rval_fin (f : Fl) (hc : canon 1 neg e (val xs) = some f) (hbg : (0 ≤ f.exp ∧ ¬ 262144 < (bl f.mag : Int) + f.exp) ∨ (f.exp < 0 ∧ ¬ 262144 < 1 - f.exp)) : Calls Tryd.prog 28 #[flV 1 neg e (.slice A xs.length c)] w (RatR w 0 f.neg (f.mag * 2 ^ f.exp.toNat) (2 ^ (-f.exp).toNat)) := by
  have hgd := fun w h => rgood_c 1 e neg A c xs w h (by omega)
  rw [hc] at hgd
  simp only [Option.isSome_some] at hgd
  obtain ⟨hX, hY, hE⟩ := boxesRQ w 1 e neg (.slice A xs.length c) _ rfl
  have hlg := fun w => rlargef_c 1 e neg A xs.length c w
  rw [show decide (4096 < xs.length) = false by rw [decide_eq_false_iff_not]; omega] at hlg
  have hok := canon_ok hc
  have hbl := canon_fin_bl' hc h.w64 (by omega)
  obtain ⟨hf, hp, he, he4⟩ := canon_fin hc
  have hod := fun w h => rodd_c 1 e neg A c xs w h (by omega) (by omega) (by omega)
  have hlo := hok.lo
  have hhi := hok.hi
  have hodd := hok.odd (by rw [hf])
  rw [hf] at hbg hbl hlo hhi hodd ⊢
  simp only at hbg hbl hlo hhi hodd ⊢
  obtain ⟨E, hE0⟩ : ∃ E, e + tz (val xs) = E := ⟨_, rfl⟩
  obtain ⟨M, hM0⟩ : ∃ M, val xs / 2 ^ tz (val xs) = M := ⟨_, rfl⟩
  rw [hE0] at hbg hlo hhi hod
  rw [hM0] at hbg hbl hodd hod
  rw [hE0, hM0]
  have hMp : 0 < M := by omega
  have hml : (cn M).length ≤ 4096 := hbl.2
  have hln := fun A c w h => rlen_c A c (cn M) w h (by omega)
  rw [val_cn] at hln
  have hb1' := hbl.1
  have hrt : ∀ w, Rd w A c xs → Calls Tryd.prog 62 #[flV 1 neg e (.slice A xs.length c)] w (RatN w neg (M * 2 ^ E.toNat) (2 ^ (-E).toNat)) := fun w h => by
    rcases hbg with ⟨g1, g2⟩ | ⟨g1, g2⟩
    · have := rrat_pos e neg A c xs M E hM0 hE0 hMp hl (by omega) (by omega) g1 (by omega) (by
        refine cn_len_pow (m := bl M + E.toNat) ?_ (by omega)
        rw [Nat.pow_add]
        exact Nat.mul_lt_mul_of_pos_right bl_lt (Nat.two_pow_pos _)) w h
      rwa [show 2 ^ (-E).toNat = 1 by rw [show (-E).toNat = 0 by omega]] 
    · have := rrat_neg e neg A c xs M E hM0 hE0 hMp hl (by omega) (by omega) g1 (by omega) w h
      rwa [show M * 2 ^ E.toNat = M by rw [show E.toNat = 0 by omega, Nat.pow_zero, Nat.mul_one]]
  generalize bl M = ℓ at *
  generalize M * 2 ^ E.toNat = nn at *
  generalize 2 ^ (-E).toNat = dd at *
  have HX := Lib.hid hX
  have HY := Lib.hid hY
  have HE := Lib.hid hE
  clear hX hY hE hc hl hok hf hp he he4 hbl hml hodd hMp
  have hw1 : IntKind.i64.wrap ((ℓ : Int) + E) = (ℓ : Int) + E := by rw [IntKind.wrap_i64]; omega
  have hw2 : IntKind.i64.wrap (1 - E) = 1 - E := by rw [IntKind.wrap_i64]; omega
  clear hE0 hM0
  have hcase : (decide (0 ≤ E) = true ∧ decide (262144 < (ℓ : Int) + E) = false ∧ decide (E < 0) = false) ∨ (decide (0 ≤ E) = false ∧ decide (E < 0) = true ∧ decide (262144 < 1 - E) = false) := by
    rcases hbg with ⟨g1, g2⟩ | ⟨g1, g2⟩
    · exact .inl ⟨by rw [decide_eq_true_iff]; exact g1, by rw [decide_eq_false_iff_not]; exact g2, by rw [decide_eq_false_iff_not]; omega⟩
    · exact .inr ⟨by rw [decide_eq_false_iff_not]; omega, by rw [decide_eq_true_iff]; exact g1, by rw [decide_eq_false_iff_not]; exact g2⟩
  clear hbg
  go_enter Tryd.func28, Tryd.ntmps28
  go_wp2_with fail
  have hX := HX.out
  have hY := HY.out
  have hE := HE.out
  generalize ((w.alloc (.cells #[.int .i64 1, .bool neg, .int .i64 e, .slice A xs.length c] 45)).alloc (.cells #[.bool false, .slice none 0 0, .slice none 0 0] 52)) = W at *
  refine (hlg _).mono ?_
  rintro z w1 ⟨rfl, hb1⟩
  obtain ⟨x0, x1, x2, x3, -⟩ := (hX.ext hb1).facts
  go_wp2_with fail
  refine (hgd _ (h.ext (hE.tr hb1))).mono ?_
  rintro z w2 ⟨rfl, hb2⟩
  have hb := hb1.tr hb2
  clear x0 x1 x2 x3
  obtain ⟨x0, x1, x2, x3, -⟩ := (hX.ext hb).facts
  go_wp2_with fail
  refine (hod _ (h.ext (hE.tr hb))).mono ?_
  rintro z w3 ⟨v, rfl, ho3, hb3⟩
  obtain ⟨A3, c3, rfl, hr3⟩ := ho3.rd
  have hb4 := hb.tr hb3
  clear x0 x1 x2 x3
  obtain ⟨x0, x1, x2, x3, -⟩ := (hX.ext hb4).facts
  have fin : ∀ z w6, RatN w3 neg nn dd z w6 → ∃ A5 c5 B5 e5, z = .returned (ratV neg (.slice A5 (cn nn).length c5) (.slice B5 (cn dd).length e5)) ∧ w.heap.size + 1 < w6.heap.size ∧ (w6.cell? ⟨w.heap.size + 1, 0, none⟩ = some (.bool false) ∧ w6.cell? ⟨w.heap.size + 1, 1, none⟩ = some (.slice none 0 0) ∧ w6.cell? ⟨w.heap.size + 1, 2, none⟩ = some (.slice none 0 0) ∧ ∀ i, w6.frozen? ⟨w.heap.size + 1, i, none⟩ = false) ∧
      Hid (Bq (((w6.setCell ⟨w.heap.size + 1, 0, none⟩ (.bool neg)).setCell ⟨w.heap.size + 1, 1, none⟩ (.slice A5 (cn nn).length c5)).setCell ⟨w.heap.size + 1, 2, none⟩ (.slice B5 (cn dd).length e5)) (w.heap.size + 1) (.bool neg) (.slice A5 (cn nn).length c5) (.slice B5 (cn dd).length e5) ∧
        RatR w 0 neg nn dd (.returned (.tuple #[ratV neg (.slice A5 (cn nn).length c5) (.slice B5 (cn dd).length e5), .int .i64 0])) (((w6.setCell ⟨w.heap.size + 1, 0, none⟩ (.bool neg)).setCell ⟨w.heap.size + 1, 1, none⟩ (.slice A5 (cn nn).length c5)).setCell ⟨w.heap.size + 1, 2, none⟩ (.slice B5 (cn dd).length e5))) := by
    rintro z w6 ⟨v1, v2, rfl, ho1, ho2, hb6⟩
    obtain ⟨A5, c5, rfl, -⟩ := ho1.rd
    obtain ⟨B5, e5, rfl, -⟩ := ho2.rd
    have hY1 := hY.ext (hb4.tr hb6)
    have hlt := hY.lt
    have hs0 := hE.size
    have hs1 := hb4.size
    have hs2 := hb6.size
    exact ⟨A5, c5, B5, e5, rfl, by omega, hY1.facts, Lib.hid ⟨hY1.put _ _ _, ⟨_, _, rfl, (ho1.putq (g := w.heap.size + 1) (by omega) _ _ _).low (b := w.heap.size) (by omega), (ho2.putq (g := w.heap.size + 1) (by omega) _ _ _).low (b := w.heap.size) (by omega), (hE.tr (hb4.tr hb6)).putq (g := w.heap.size + 1) (by omega) _ _ _⟩⟩⟩
  rcases hcase with ⟨d1, d2, d3⟩ | ⟨d1, d2, d3⟩
  · go_wp2_with fail
    refine (hln _ _ _ hr3).mono ?_
    rintro z w4 ⟨rfl, rfl⟩
    go_wp2_with fail
    refine (hrt _ (h.ext (hE.tr hb4))).mono ?_
    intro z w6 hz
    obtain ⟨A5, c5, B5, e5, rfl, hlt, ⟨y0, y1, y2, yf⟩, HH⟩ := fin z w6 hz
    clear x0 x1 x2 x3 hz fin
    go_wp2
    obtain ⟨m0, m1, m2, -⟩ := HH.out.1.facts
    refine bodyPost_ret (v := .tuple #[ratV neg (.slice A5 (cn nn).length c5) (.slice B5 (cn dd).length e5), .int .i64 0]) (by simp [results, Tryd.results28, go_sem, m0, m1, m2]) rfl ?_
    exact HH.out.2
  · go_wp2_with fail
    refine (hrt _ (h.ext (hE.tr hb4))).mono ?_
    intro z w6 hz
    obtain ⟨A5, c5, B5, e5, rfl, hlt, ⟨y0, y1, y2, yf⟩, HH⟩ := fin z w6 hz
    clear x0 x1 x2 x3 hz fin
    go_wp2
    obtain ⟨m0, m1, m2, -⟩ := HH.out.1.facts
    refine bodyPost_ret (v := .tuple #[ratV neg (.slice A5 (cn nn).length c5) (.slice B5 (cn dd).length e5), .int .i64 0]) (by simp [results, Tryd.results28, go_sem, m0, m1, m2]) rfl ?_
    exact HH.out.2
end
end Go.Proofs.YtgkojhhodncpbaaDoor
