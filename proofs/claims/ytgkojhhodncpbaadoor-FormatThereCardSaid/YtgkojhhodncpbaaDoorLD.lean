/- FormatThere: the walk. -/
import Derived.Test.YtgkojhhodncpbaaDoorV1
import Derived.Test.YtgkojhhodncpbaaDoorV3
import Derived.Test.YtgkojhhodncpbaaDoorS9
import Derived.Test.YtgkojhhodncpbaaDoorT9
import Derived.Test.YtgkojhhodncpbaaDoorG2
set_option linter.unusedVariables false
set_option linter.unusedSimpArgs false
namespace Go.Proofs.YtgkojhhodncpbaaDoor
open Go.RowKit

theorem Bx.s1 {w : World} {g : Nat} {a b c d : Value} (x : Bx w g a b c d) (v : Value) : Bx (w.setCell ⟨g, 1, none⟩ v) g a v c d := by
  have h := x.h
  constructor
  simp [World.setCell, Array.getElem?_modify, h]
/-- What Value does at a float: an error, 0, or a number whose denominator is a power of 2. -/
theorem value_cases (a : FA) (h64 : W64 a.xs) (hl : a.xs.length ≤ 40) :
    (∃ ec neg num den, (ec != 0) = true ∧ ∀ w, Tab w → Rd w a.A a.c a.xs → Calls Tryd.prog 27 #[a.v] w (RatR w ec neg num den)) ∨
    (a.k = 0 ∧ canon 0 false a.e (val a.xs) = some ⟨0, false, 0, 0⟩ ∧ ∀ w, Tab w → Rd w a.A a.c a.xs → Calls Tryd.prog 27 #[a.v] w (RatR w 0 false 0 1)) ∨
    (∃ f, a.can = some f ∧ f.kind = 1 ∧ a.k = 1 ∧ f.Ok ∧ (cn (f.mag * 2 ^ f.exp.toNat)).length ≤ 4096 ∧ (cn (2 ^ (-f.exp).toNat)).length ≤ 4096 ∧ (-f.exp).toNat ≤ 1000000 ∧ (cn f.mag).length ≤ 4096 ∧
      ∀ w, Tab w → Rd w a.A a.c a.xs → Calls Tryd.prog 27 #[a.v] w (RatR w 0 f.neg (f.mag * 2 ^ f.exp.toNat) (2 ^ (-f.exp).toNat))) := by
  have hl' : a.xs.length ≤ 10000000 := by omega
  cases hc : a.can with
  | none =>
    have h0 : capE a = 151 := by unfold capE; rw [if_neg (by omega), hc]; rfl
    have h1 : capF a = ⟨0, false, 0, 0⟩ := by unfold capF; rw [if_neg (by omega), hc]; rfl
    exact .inl ⟨capE a, _, _, _, by rw [h0]; rfl, fun w hT h => value_err a w hT h hl' (by rw [h0]; decide) h1⟩
  | some f =>
    have h0 : capE a = 0 := by unfold capE; rw [if_neg (by omega), hc]; rfl
    have h1 : capF a = f := by unfold capF; rw [if_neg (by omega), hc]; rfl
    have hkk : f.kind = a.k := canon_kind hc
    by_cases hk : f.kind = 0
    · refine .inr (.inl ⟨by omega, ?_, fun w hT h => value_zero a f w hT h hl' h0 h1 hk⟩)
      have hc' : canon a.k a.neg a.e (val a.xs) = some f := hc
      rw [show a.k = 0 by omega] at hc'
      unfold canon at hc' ⊢
      rw [if_pos (.inl rfl)] at hc' ⊢
      split at hc'
      · rename_i hh; rw [if_pos hh]
      · cases hc'
    by_cases hk1 : f.kind = 1
    · have hok : f.Ok := canon_ok hc
      have hb := canon_fin_bl hc h64 (by omega)
      have hbd : -1048576 ≤ f.exp ∧ f.exp ≤ 1048576 ∧ bl f.mag ≤ 1000000 ∧ (cn f.mag).length ≤ 1000000 := ⟨hok.lo, hok.hi, by omega, by omega⟩
      cases hb1 : decide ((262144 : Int) < (f.exp.toNat : Int) + bl f.mag) with
      | true => exact .inl ⟨_, _, _, _, rfl, fun w hT h => value_big a f w hT h hl' h0 h1 hk1 hbd (.inl hb1)⟩
      | false =>
        cases hb2 : decide ((262144 : Int) < -f.exp + 1) with
        | true => exact .inl ⟨_, _, _, _, rfl, fun w hT h => value_big a f w hT h hl' h0 h1 hk1 hbd (.inr ⟨hb1, hb2⟩)⟩
        | false =>
          rw [decide_eq_false_iff_not] at hb1 hb2
          refine .inr (.inr ⟨f, rfl, hk1, by omega, hok, ?_, ?_, by omega, hb.2, fun w hT h => value_fin a f w hT h hl' h0 h1 hk1 hbd (by rw [decide_eq_false_iff_not]; exact hb1) (by rw [decide_eq_false_iff_not]; exact hb2)⟩)
          · refine cn_len_pow (m := bl f.mag + f.exp.toNat) ?_ (by omega)
            rw [Nat.pow_add]
            exact Nat.mul_lt_mul_of_pos_right bl_lt (Nat.two_pow_pos _)
          · exact cn_len_pow (m := (-f.exp).toNat + 1) (Nat.pow_lt_pow_right (by omega) (by omega)) (by omega)
    · exact .inl ⟨_, _, _, _, rfl, fun w hT h => value_none a f w hT h hl' h0 h1 hk hk1⟩
set_option maxHeartbeats 4000000 in
set_option maxRecDepth 100000 in
theorem formatThere_c (a : FA) (w : World) (hT : Tab w) (hM : MapT w) (h : Rd w a.A a.c a.xs) :
    Calls Tryd.prog 8 #[a.v] w fun e w' => e = .returned (.bool true) ∧ Ext w w' := by
  obtain ⟨hX, hF, hE⟩ := two_boxes w a h
  have hsh := short_c _ _ [a] _ hF
  have hall : [a].all (fun b => decide (b.xs.length ≤ 40)) = decide (a.xs.length ≤ 40) := by simp
  rw [hall] at hsh
  clear hall hF
  have HX := Lib.hid hX
  have HE := Lib.hid hE
  clear hX hE
  by_cases hs : a.xs.length ≤ 40
  rotate_left
  · rw [show decide (a.xs.length ≤ 40) = false by simpa using hs] at hsh
    go_enter Tryd.func8, Tryd.ntmps8
    go_wp2_with (first
      | (go_at_call 26; refine hsh.mono ?_; rintro z w1 ⟨rfl, rfl⟩)
      | (go_at_call 18; refine (awake_c _ (hT.ext HE.out) (hM.ext HE.out)).mono ?_; rintro z w2 ⟨rfl, hb⟩))
    go_ret
    exact ⟨rfl, HE.out.tr hb⟩
  rw [show decide (a.xs.length ≤ 40) = true by simpa using hs] at hsh
  rcases value_cases a h.w64 hs with ⟨ec, qn, num, den, hec, hval⟩ | ⟨hk, hcan, hval⟩ | ⟨f, hcan, hk, hak, hok, hl1, hl2, hl3, hl4, hval⟩
  · obtain ⟨kd, neg, e, A, c, xs⟩ := a
    simp only at hsh HX HE h hval hs
    clear hs
    go_enter Tryd.func8, Tryd.ntmps8
    go_wp2_with fail
    refine hsh.mono ?_
    rintro z w1 ⟨rfl, rfl⟩
    have hX := HX.out
    have hE := HE.out
    obtain ⟨x0, x1, x2, x3, -⟩ := hX.facts
    generalize ((w.alloc (.cells #[.int .i64 kd, .bool neg, .int .i64 e, .slice A xs.length c] 36)).alloc (.cells #[.int .i64 kd, .bool neg, .int .i64 e, .slice A xs.length c] 36)) = W at *
    clear HX HE hsh
    go_wp2_with fail
    refine (hval _ (hT.ext hE) (h.ext hE)).mono ?_
    rintro z w2 ⟨v1, v2, rfl, ho1, ho2, hb2⟩
    obtain ⟨B1, d1, rfl, -⟩ := ho1.rd
    obtain ⟨B2, d2, rfl, -⟩ := ho2.rd
    have hE3 := (hE.tr hb2).al (.cells #[.bool qn, .slice B1 (cn num).length d1, .slice B2 (cn den).length d2] 52)
    go_wp2_with fail
    refine (awake_c _ (hT.ext hE3) (hM.ext hE3)).mono ?_
    rintro z w4 ⟨rfl, hb4⟩
    go_wp2
    go_ret
    exact ⟨rfl, hE3.tr hb4⟩
  · obtain ⟨kd, neg, e, A, c, xs⟩ := a
    simp only at hsh HX HE h hval hs hk hcan
    subst hk
    have hof := fun A1 A2 c1 c2 w h2 => of_zero false A1 A2 c1 c2 (cn 1) w h2 (by rw [cn_one]; simp) (by rw [val_cn]; omega)
    have hsm := fun A2 c2 w hT h h' => fsame_c ⟨0, false, e, A, c, xs⟩ ⟨0, false, 0, A2, c2, []⟩ w hT h h' (by simp only; omega) (by simp)
    rw [show FA.can ⟨0, false, e, A, c, xs⟩ = some ⟨0, false, 0, 0⟩ from hcan] at hsm
    simp only [show ∀ A2 c2, FA.can ⟨0, false, 0, A2, c2, []⟩ = some ⟨0, false, 0, 0⟩ from fun _ _ => rfl, show sameO (some ⟨0, false, 0, 0⟩) (some ⟨0, false, 0, 0⟩) = true from rfl, List.length_nil] at hsm
    simp only [show cn 1 = [1] from cn_one, List.length_cons, List.length_nil, Nat.zero_add] at hof
    clear hs hcan
    go_enter Tryd.func8, Tryd.ntmps8
    go_wp2_with fail
    refine hsh.mono ?_
    rintro z w1 ⟨rfl, rfl⟩
    have hX := HX.out
    have hE := HE.out
    obtain ⟨x0, x1, x2, x3, -⟩ := hX.facts
    generalize ((w.alloc (.cells #[.int .i64 0, .bool neg, .int .i64 e, .slice A xs.length c] 36)).alloc (.cells #[.int .i64 0, .bool neg, .int .i64 e, .slice A xs.length c] 36)) = W at *
    clear HX HE hsh
    go_wp2_with fail
    refine (hval _ (hT.ext hE) (h.ext hE)).mono ?_
    rintro z w2 ⟨v1, v2, rfl, ho1, ho2, hb2⟩
    rw [show cn 0 = [] from digs_zero B] at ho1
    rw [cn_one] at ho2
    obtain ⟨B1, d1, rfl, -⟩ := ho1.rd
    obtain ⟨B2, d2, rfl, hr2⟩ := ho2.rd
    simp only [List.length_nil, List.length_cons, Nat.zero_add]
    have hA3 := (Ext.refl w2).al (.cells #[.bool false, .slice B1 0 d1, .slice B2 1 d2] 52)
    have hE3 := (hE.tr hb2).tr hA3
    have hX2 := hX.ext hb2
    clear x0 x1 x2 x3
    go_wp2_with fail
    refine (hof _ _ _ _ _ (hr2.ext hA3)).mono ?_
    rintro z w4 ⟨rfl, hb4⟩
    have hX4 := (hX2.ext hA3).ext hb4
    have hE4 := hE3.tr hb4
    obtain ⟨x0, x1, x2, x3, xf⟩ := hX4.facts
    have hlx := hX4.lt
    have hX5 := hX4.s1 (.bool false)
    have hE5 := hE4.set (g := w.heap.size) (Nat.le_refl _) 1 (.bool false)
    obtain ⟨y0, y1, y2, y3, yf⟩ := hX5.facts
    have hE6 := hE5.al (.cells #[.int .i64 0, .bool false, .int .i64 0, .slice none 0 0] 36)
    have hsz : (w4.setCell ⟨w.heap.size, 1, none⟩ (.bool false)).heap.size = w4.heap.size := by simp
    go_wp2_with fail
    refine (hsm none 0 _ (hT.ext hE6) (h.ext hE6) (Rd.nil _ _ _)).mono ?_
    rintro z w7 ⟨rfl, hb7⟩
    have hE7 := hE6.tr hb7
    go_wp2_with fail
    refine (awake_c _ (hT.ext hE7) (hM.ext hE7)).mono ?_
    rintro z w8 ⟨rfl, hb8⟩
    go_wp2
    go_ret
    exact ⟨rfl, hE7.tr hb8⟩
  · have hcf := there_can hok hk
    have hmp : 0 < f.mag * 2 ^ f.exp.toNat := Nat.mul_pos (by have := hok.odd hk; omega) (Nat.two_pow_pos _)
    have hof := fun A1 A2 c1 c2 w hT h1 h2 => of_fin f.neg (f.mag * 2 ^ f.exp.toNat) (-f.exp).toNat f A1 A2 c1 c2 w hT h1 h2 hl1 hl2 hl3 hmp hcf
    have hsm := fun A2 c2 w hT h h' => fsame_c a ⟨f.kind, f.neg, f.exp, A2, c2, cn f.mag⟩ w hT h h' (by omega) (by simp only; omega)
    have hcs := fun A2 c2 => can_self hok A2 c2
    simp only [hcan, hcs, sameO_self, Option.isSome_some] at hsm
    generalize f.mag * 2 ^ f.exp.toNat = num at *
    generalize 2 ^ (-f.exp).toNat = den at *
    obtain ⟨kd, neg, e, A, c, xs⟩ := a
    simp only at hsh HX HE h hval hs hak
    subst hak
    clear hs hcan hcs hcf hmp hl1 hl2 hl3 hl4 hok
    obtain ⟨fk, fn, fe, fm⟩ := f
    simp only at hk hof hsm hval
    subst hk
    go_enter Tryd.func8, Tryd.ntmps8
    go_wp2_with fail
    refine hsh.mono ?_
    rintro z w1 ⟨rfl, rfl⟩
    have hX := HX.out
    have hE := HE.out
    obtain ⟨x0, x1, x2, x3, -⟩ := hX.facts
    generalize ((w.alloc (.cells #[.int .i64 1, .bool neg, .int .i64 e, .slice A xs.length c] 36)).alloc (.cells #[.int .i64 1, .bool neg, .int .i64 e, .slice A xs.length c] 36)) = W at *
    clear HX HE hsh
    go_wp2_with fail
    refine (hval _ (hT.ext hE) (h.ext hE)).mono ?_
    rintro z w2 ⟨v1, v2, rfl, ho1, ho2, hb2⟩
    obtain ⟨B1, d1, rfl, hr1⟩ := ho1.rd
    obtain ⟨B2, d2, rfl, hr2⟩ := ho2.rd
    have hA3 := (Ext.refl w2).al (.cells #[.bool fn, .slice B1 (cn num).length d1, .slice B2 (cn den).length d2] 52)
    have hE3 := (hE.tr hb2).tr hA3
    have hX2 := hX.ext hb2
    clear x0 x1 x2 x3
    go_wp2_with fail
    refine (hof _ _ _ _ _ (hT.ext hE3) (hr1.ext hA3) (hr2.ext hA3)).mono ?_
    rintro z w4 ⟨u, rfl, ⟨v, rfl, ho4⟩, hb4⟩
    obtain ⟨A4, c4, rfl, hr4⟩ := ho4.rd
    have hX4 := (hX2.ext hA3).ext hb4
    have hE4 := hE3.tr hb4
    obtain ⟨x0, x1, x2, x3, xf⟩ := hX4.facts
    have hlx := hX4.lt
    have hA5 := (Ext.refl w4).al (.cells #[.int .i64 1, .bool fn, .int .i64 fe, .slice A4 (cn fm).length c4] 36)
    have hE5 := hE4.tr hA5
    go_wp2_with fail
    refine (hsm A4 c4 _ (hT.ext hE5) (h.ext hE5) (hr4.ext hA5)).mono ?_
    rintro z w7 ⟨rfl, hb7⟩
    have hE7 := hE5.tr hb7
    go_wp2_with fail
    refine (awake_c _ (hT.ext hE7) (hM.ext hE7)).mono ?_
    rintro z w8 ⟨rfl, hb8⟩
    go_wp2
    go_ret
    exact ⟨rfl, hE7.tr hb8⟩
end Go.Proofs.YtgkojhhodncpbaaDoor
