/- FormatBack: the walk. -/
import Derived.Test.YtplnaajoeoiieaaDoorT2
import Derived.Test.YtplnaajoeoiieaaDoorS8
import Derived.Test.YtplnaajoeoiieaaDoorS9
import Derived.Test.YtplnaajoeoiieaaDoorL6
set_option linter.unusedVariables false
set_option linter.unusedSimpArgs false
namespace Go.Proofs.YtplnaajoeoiieaaDoor
open Go.RowKit

theorem can_self {F : Fl} (hok : F.Ok) (A : Option Addr) (c : Nat) : FA.can ⟨F.kind, F.neg, F.exp, A, c, cn F.mag⟩ = some F := by
  show canon F.kind F.neg F.exp (val (cn F.mag)) = some F
  rw [val_cn]; exact canon_self hok
theorem flt_self {k p : Int} {F : Fl} (hR : Rgt k p) (hok : F.Ok) (hin : InF k p F) (hl : (cn F.mag).length ≤ 4096) (A : Option Addr) (c : Nat) :
    fltE k p ⟨F.kind, F.neg, F.exp, A, c, cn F.mag⟩ = 0 ∧ encN k p ⟨F.kind, F.neg, F.exp, A, c, cn F.mag⟩ = encS k p F := by
  have hc := can_self hok A c
  have h0 : fltE k p ⟨F.kind, F.neg, F.exp, A, c, cn F.mag⟩ = 0 := by
    unfold fltE
    rw [FlsS_one, hc]
    simp only
    rw [if_neg (by omega), if_pos hR]
    show (match (some F).bind (fun f => if InF k p f then some f else none) with | some f => ((0 : Int), [f]) | none => (151, [])).1 = 0
    rw [Option.bind_some, if_pos hin]
  refine ⟨h0, ?_⟩
  unfold encN
  rw [if_pos h0, hc]
set_option maxHeartbeats 2000000 in
set_option maxRecDepth 100000 in
set_option exponentiation.threshold 3000 in
theorem formatBack_c (k p : Int) (A : Option Addr) (c : Nat) (xs : List Nat) (w : World) (hT : Tab w) (hM : MapT w) (h : Rd w A c xs) :
    Calls Tryd.prog 13 #[.agg #[.int .i64 k, .int .i64 p], .slice A xs.length c] w fun e w' => e = .returned (.bool true) ∧ Ext w w' := by
  have hF := Bf.new w (.int .i64 k) (.int .i64 p)
  have hA := (Ext.refl w).al (.cells #[.int .i64 k, .int .i64 p] 24)
  have HF := Lib.hid hF
  have HA := Lib.hid hA
  clear hF hA
  by_cases hs : 40 < xs.length
  · have hd : decide ((40 : Int) < (xs.length : Int)) = true := by simp; omega
    have hE := HA.out
    clear HF HA hs
    go_enter Tryd.func13, Tryd.ntmps13
    go_wp2_with (go_at_call 17; refine (awake_c _ (hT.ext hE) (hM.ext hE)).mono ?_; rintro z w2 ⟨rfl, hb⟩)
    go_ret
    exact ⟨rfl, hE.tr hb⟩
  have hd : decide ((40 : Int) < (xs.length : Int)) = false := by simp; omega
  have hdc := fun w hT h => decode_c k p A c xs w hT h
  by_cases hde : decE k p xs = 0
  · rw [hde, if_pos rfl] at hdc
    have hRb : Rgt k p ∧ (bl (val xs) : Int) ≤ k + p := by
      unfold decE at hde
      rw [if_neg (by omega)] at hde
      by_cases hR : Rgt k p
      · rw [if_pos hR] at hde
        refine ⟨hR, ?_⟩
        by_cases hb : k + p < (bl (val xs) : Int)
        · rw [if_pos hb] at hde; cases hde
        · omega
      · rw [if_neg hR] at hde; cases hde
    obtain ⟨hR, hb⟩ := hRb
    have hok := decF_ok (n := val xs) hR
    have hln := decF_len (n := val xs) hR
    have hin := dec_in (n := val xs) hR
    have hfe := fun A1 c1 => flt_self hR hok hin (by omega) A1 c1
    have hcs := fun A1 c1 => can_self hok A1 c1
    have hen := fun A1 c1 w hT h => encode_c k p ⟨(decF k p (val xs)).kind, (decF k p (val xs)).neg, (decF k p (val xs)).exp, A1, c1, cn (decF k p (val xs)).mag⟩ w hT h
    have hho := fun A1 c1 w hT h => hold_c k p ⟨(decF k p (val xs)).kind, (decF k p (val xs)).neg, (decF k p (val xs)).exp, A1, c1, cn (decF k p (val xs)).mag⟩ w hT h
    have hsm := fun A1 A2 c1 c2 w hT h1 h2 => fsame_c ⟨(decF k p (val xs)).kind, (decF k p (val xs)).neg, (decF k p (val xs)).exp, A1, c1, cn (decF k p (val xs)).mag⟩ ⟨(decF k p (val xs)).kind, (decF k p (val xs)).neg, (decF k p (val xs)).exp, A2, c2, cn (decF k p (val xs)).mag⟩ w hT h1 h2 (by simp only; omega) (by simp only; omega)
    simp only [(hfe _ _).1, (hfe _ _).2] at hen hho
    simp only [hcs, sameO_self, Option.isSome_some] at hsm
    have hback : decF k p (encS k p (decF k p (val xs))) = decF k p (val xs) ∧ (bl (encS k p (decF k p (val xs))) : Int) ≤ k + p := by
      by_cases h3 : (decF k p (val xs)).kind = 3
      · rw [dec_nan h3]; exact nan_enc hR
      · rw [dec_enc hR hok hb h3]; exact ⟨rfl, hb⟩
    have hml : (cn (encS k p (decF k p (val xs)))).length ≤ 40 := by
      obtain ⟨k1, k2, k3, k4⟩ := hR
      refine (cn_len_le _ _).2 ?_
      rw [B_two, ← Nat.pow_mul]
      exact Nat.lt_of_lt_of_le ((bl_le _ (k.toNat + p.toNat)).1 (by omega)) (Nat.pow_le_pow_right (by omega) (by omega))
    have hde2 : decE k p (cn (encS k p (decF k p (val xs)))) = 0 := by
      unfold decE
      rw [if_neg (by omega), if_pos hR, if_neg (by rw [val_cn]; omega)]
    have hd2 := fun A2 c2 w hT h => decode_c k p A2 c2 (cn (encS k p (decF k p (val xs)))) w hT h
    simp only [hde2, if_true, val_cn, hback.1] at hd2
    have his : ∀ A2 c2 w, Rd w A2 c2 (cn (encS k p (decF k p (val xs)))) → Rd w A c xs → Calls Tryd.prog 25 #[.slice A2 (cn (encS k p (decF k p (val xs)))).length c2, .slice A xs.length c] w fun e w' => e = .returned (.bool (decide (cn (encS k p (decF k p (val xs))) = cn (val xs)))) ∧ Ext w w' :=
      fun A2 c2 w h1 h2 => ris_c A2 A c2 c _ xs w h1 h2 (by omega)
    have hk3 : (((decF k p (val xs)).kind == 3) = true) ∨ (((decF k p (val xs)).kind == 3) = false ∧ decide (cn (encS k p (decF k p (val xs))) = cn (val xs)) = true) := by
      by_cases h3 : (decF k p (val xs)).kind = 3
      · left; simpa using h3
      · right
        exact ⟨by simpa using h3, by rw [dec_enc hR hok hb h3]; simp⟩
    generalize decF k p (val xs) = F at *
    generalize encS k p F = M at *
    clear hde hR hok hln hb hs hin hfe hcs hback hml hde2
    generalize decide (cn M = cn (val xs)) = B1 at *
    rcases hk3 with hk3 | ⟨hk3, rfl⟩
    all_goals
      go_enter Tryd.func13, Tryd.ntmps13
      go_wp2_with fail
      have hF := HF.out
      have hA := HA.out
      clear HF HA
      generalize w.alloc (.cells #[.int .i64 k, .int .i64 p] 24) = W at *
      refine (hdc _ (hT.ext hA) (h.ext hA)).mono ?_
      rintro z w1 ⟨u, rfl, ⟨v, rfl, ho1⟩, hb1⟩
      obtain ⟨A1, c1, rfl, hr1⟩ := ho1.rd
      have hX1 := Bx.new w1 (.int .i64 F.kind) (.bool F.neg) (.int .i64 F.exp) (.slice A1 (cn F.mag).length c1)
      have hA2 := (Ext.refl w1).al (.cells #[.int .i64 F.kind, .bool F.neg, .int .i64 F.exp, .slice A1 (cn F.mag).length c1] 37)
      have hE2 := (hA.tr hb1).tr hA2
      have hr2 := hr1.ext hA2
      have hF1 := hF.ext hb1
      have hlf := hF1.lt
      obtain ⟨f0, f1⟩ := hF1.facts
      go_wp2_with fail
      refine (hen A1 c1 _ (hT.ext hE2) hr2).mono ?_
      rintro z w3 ⟨v, rfl, ho3, hb3⟩
      obtain ⟨A3, c3, rfl, hr3⟩ := ho3.rd
      have hE3 := hE2.tr hb3
      have hF3 := (hF1.ext hA2).ext hb3
      have hX3 := hX1.ext hb3
      have hr23 := hr2.ext hb3
      clear f0 f1 hlf
      obtain ⟨f0, f1⟩ := hF3.facts
      go_wp2_with fail
      refine (hd2 A3 c3 _ (hT.ext hE3) hr3).mono ?_
      rintro z w4 ⟨u, rfl, ⟨v, rfl, ho4⟩, hb4⟩
      obtain ⟨A4, c4, rfl, hr4⟩ := ho4.rd
      have hY4 := Bx.new w4 (.int .i64 F.kind) (.bool F.neg) (.int .i64 F.exp) (.slice A4 (cn F.mag).length c4)
      have hA5 := (Ext.refl w4).al (.cells #[.int .i64 F.kind, .bool F.neg, .int .i64 F.exp, .slice A4 (cn F.mag).length c4] 37)
      have hE5 := (hE3.tr hb4).tr hA5
      have hF4 := hF3.ext hb4
      have hX4 := hX3.ext hb4
      have hlf := hF4.lt
      have hlx := hX4.lt
      have hF5 := hF4.ext hA5
      have hX5 := hX4.ext hA5
      have hr35 := (hr3.ext hb4).ext hA5
      have hr25 := (hr23.ext hb4).ext hA5
      have hr45 := hr4.ext hA5
      clear f0 f1
      obtain ⟨f0, f1⟩ := hF4.facts
      obtain ⟨x0, x1, x2, x3, -⟩ := hX4.facts
      go_wp2_with fail
      refine (hho A1 c1 _ (hT.ext hE5) hr25).mono ?_
      rintro z w6 ⟨rfl, hb6⟩
      have hE6 := hE5.tr hb6
      clear f0 f1 x0 x1 x2 x3
      have hX6 := hX5.ext hb6
      obtain ⟨x0, x1, x2, x3, -⟩ := hX6.facts
      obtain ⟨y0, y1, y2, y3, -⟩ := (hY4.ext hb6).facts
      go_wp2_with fail
      refine (hsm A1 A4 c1 c4 _ (hT.ext hE6) (hr25.ext hb6) (hr45.ext hb6)).mono ?_
      rintro z w7 ⟨rfl, hb7⟩
      have hE7 := hE6.tr hb7
      clear x0 x1 x2 x3 y0 y1 y2 y3
      obtain ⟨x0, x1, x2, x3, -⟩ := (hX6.ext hb7).facts
      go_wp2_with fail
      first
        | (refine (his A3 c3 _ ((hr35.ext hb6).ext hb7) (h.ext hE7)).mono ?_
           rintro z w8 ⟨rfl, hb8⟩
           have hE8 := hE7.tr hb8
           go_wp2_with fail
           refine (awake_c _ (hT.ext hE8) (hM.ext hE8)).mono ?_
           rintro z w9 ⟨rfl, hb9⟩
           go_wp2
           go_ret
           exact ⟨rfl, hE8.tr hb9⟩)
        | (refine (awake_c _ (hT.ext hE7) (hM.ext hE7)).mono ?_
           rintro z w9 ⟨rfl, hb9⟩
           go_wp2
           go_ret
           exact ⟨rfl, hE7.tr hb9⟩)
  · rw [if_neg hde] at hdc
    generalize decE k p xs = E at *
    have hE0 : (E != 0) = true := by rw [bne_iff_ne]; exact hde
    clear hde hs
    go_enter Tryd.func13, Tryd.ntmps13
    go_wp2_with fail
    have hF := HF.out
    have hA := HA.out
    clear HF HA
    generalize w.alloc (.cells #[.int .i64 k, .int .i64 p] 24) = W at *
    refine (hdc _ (hT.ext hA) (h.ext hA)).mono ?_
    rintro z w1 ⟨u, rfl, ⟨v, rfl, ho1⟩, hb1⟩
    rw [show cn (0 : Nat) = [] from digs_zero B] at ho1
    obtain ⟨A1, c1, rfl, hr1⟩ := ho1.rd
    simp only [List.length_nil]
    have hE2 := (hA.tr hb1).al (.cells #[.int .i64 0, .bool false, .int .i64 0, .slice A1 0 c1] 37)
    go_wp2_with fail
    refine (awake_c _ (hT.ext hE2) (hM.ext hE2)).mono ?_
    rintro z w9 ⟨rfl, hb9⟩
    go_wp2
    go_ret
    exact ⟨rfl, hE2.tr hb9⟩
end Go.Proofs.YtplnaajoeoiieaaDoor
