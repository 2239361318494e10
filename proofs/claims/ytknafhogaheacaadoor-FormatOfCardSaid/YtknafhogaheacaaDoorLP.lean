/- FormatOf: the walk. -/
import Derived.Test.YtknafhogaheacaaDoorVM
import Derived.Test.YtknafhogaheacaaDoorVN
import Derived.Test.YtknafhogaheacaaDoorS3
import Derived.Test.YtknafhogaheacaaDoorT8
import Derived.Test.YtknafhogaheacaaDoorG2
set_option linter.unusedVariables false
set_option linter.unusedSimpArgs false
namespace Go.Proofs.YtknafhogaheacaaDoor
open Go.RowKit

theorem fl_len {n k : Nat} (h : n < B ^ k) : (cn n).length ≤ k := (cn_len_le _ _).2 h
theorem canon_le {k : Int} {neg : Bool} {e : Int} {m : Nat} {f : Fl} (h : canon k neg e m = some f) : f.mag ≤ m := by
  unfold canon at h
  repeat' split at h
  all_goals first | (obtain rfl := Option.some.inj h; first | exact Nat.zero_le _ | exact Nat.div_le_self _ _) | cases h
set_option maxHeartbeats 4000000 in
set_option maxRecDepth 100000 in
theorem formatOf_c (neg : Bool) (A1 A2 : Option Addr) (c1 c2 : Nat) (xs ds : List Nat) (w : World) (hT : Tab w) (hM : MapT w) (h1 : Rd w A1 c1 xs) (h2 : Rd w A2 c2 ds) :
    Calls Tryd.prog 3 #[ratV neg (.slice A1 xs.length c1) (.slice A2 ds.length c2)] w fun e w' => e = .returned (.bool true) ∧ Ext w w' := by
  have hQ := Bq.new w (.bool neg) (.slice A1 xs.length c1) (.slice A2 ds.length c2)
  have hE := (Ext.refl w).al (.cells #[.bool neg, .slice A1 xs.length c1, .slice A2 ds.length c2] 27)
  have hlq := hQ.lt
  have HQ := Lib.hid hQ
  have HE := Lib.hid hE
  clear hQ hE
  by_cases hs : 40 < xs.length ∨ 40 < ds.length
  · have haw := fun w h => awake_c w (hT.ext h) (hM.ext h)
    rcases Nat.lt_or_ge 40 xs.length with g | g
    · have g1 : decide ((40 : Int) < (xs.length : Int)) = true := by rw [decide_eq_true_iff]; omega
      clear hs
      go_enter Tryd.func3, Tryd.ntmps3
      go_wp2_with fail
      refine (haw _ HE.out).mono ?_
      rintro z w2 ⟨rfl, hb⟩
      go_wp2
      go_ret
      exact ⟨rfl, HE.out.tr hb⟩
    · have g1 : decide ((40 : Int) < (xs.length : Int)) = false := by rw [decide_eq_false_iff_not]; omega
      have g2 : decide ((40 : Int) < (ds.length : Int)) = true := by rw [decide_eq_true_iff]; omega
      clear hs
      go_enter Tryd.func3, Tryd.ntmps3
      go_wp2_with fail
      refine (haw _ HE.out).mono ?_
      rintro z w2 ⟨rfl, hb⟩
      go_wp2
      go_ret
      exact ⟨rfl, HE.out.tr hb⟩
  have g1 : decide ((40 : Int) < (xs.length : Int)) = false := by rw [decide_eq_false_iff_not]; omega
  have g2 : decide ((40 : Int) < (ds.length : Int)) = false := by rw [decide_eq_false_iff_not]; omega
  have hiz := fun w h => riszero_c A2 c2 ds w h (by omega)
  have haw := fun w h => awake_c w (hT.ext h) (hM.ext h)
  have hno := fun n c w => none_c 0 0 false none n c w
  by_cases hd : val ds = 0
  · have hof := fun w h => of_zden neg A1 A2 c1 c2 xs ds w h (by omega) (by omega) hd
    rw [decide_eq_true hd] at hiz
    clear hs hd
    go_enter Tryd.func3, Tryd.ntmps3
    go_wp2_with fail
    refine (hof _ (h2.ext HE.out)).mono ?_
    rintro z w2 ⟨u, rfl, ⟨v, rfl, ho2⟩, hb2⟩
    rw [show cn 0 = [] from digs_zero B] at ho2
    obtain ⟨A, c, rfl, -⟩ := ho2.rd
    simp only [List.length_nil]
    have hQ2 := HQ.out.ext hb2
    have hE2 := HE.out.tr hb2
    have hX := Bx.new w2 (.int .i64 0) (.bool false) (.int .i64 0) (.slice A 0 c)
    have hA := (Ext.refl w2).al (.cells #[.int .i64 0, .bool false, .int .i64 0, .slice A 0 c] 31)
    have hQ3 := hQ2.ext hA
    have hE3 := hE2.tr hA
    have hsz := hE2.size
    obtain ⟨q0, q1, q2, -⟩ := hQ3.facts
    obtain ⟨x0, x1, x2, x3, -⟩ := hX.facts
    have hno := fun w => none_c 0 0 false A 0 c w
    simp only [show decide ((0 : Int) = 0 ∧ false = false ∧ (0 : Int) = 0 ∧ (0 : Nat) = 0) = true from rfl] at hno
    go_wp2_with fail
    refine (hiz _ (h2.ext hE3)).mono ?_
    rintro z w4 ⟨rfl, rfl⟩
    go_wp2_with fail
    refine (hno _).mono ?_
    rintro z w5 ⟨rfl, hb5⟩
    have hE5 := hE3.tr hb5
    go_wp2_with fail
    refine (haw _ hE5).mono ?_
    rintro z w6 ⟨rfl, hb6⟩
    go_wp2
    go_ret
    exact ⟨rfl, hE5.tr hb6⟩
  have hdp : 0 < val ds := by omega
  have hrf := fun w h h' => rof15_c neg A1 A2 c1 c2 xs ds w h h' (by omega) (by omega) hdp
  have htz := tz_val_le h2.w64 (show ds.length ≤ 4096 by omega)
  have hof : ∀ w, Tab w → Rd w A1 c1 xs → Rd w A2 c2 ds → Calls Tryd.prog 5 #[ratV neg (.slice A1 xs.length c1) (.slice A2 ds.length c2)] w (FErr w (if (ofW neg (val xs) (val ds)).isSome = true then 0 else 4) ((ofW neg (val xs) (val ds)).getD ⟨0, false, 0, 0⟩)) := by
    intro w hT h h'
    unfold ofW
    by_cases hn : val xs = 0
    · rw [if_pos hn]
      exact of_znum neg A1 A2 c1 c2 xs ds w h h' (by omega) (by omega) hdp hn
    · rw [if_neg hn, ← of_same neg (by omega) hdp (by omega)]
      exact of_any neg A1 A2 c1 c2 xs ds w hT h h' (by omega) (by omega) hdp (by omega)
  have hok : ∀ f, ofW neg (val xs) (val ds) = some f → canon f.kind f.neg f.exp f.mag = some f ∧ (cn f.mag).length ≤ 4096 := by
    intro f hf
    unfold ofW at hf
    by_cases hn : val xs = 0
    · rw [if_pos hn] at hf
      obtain rfl := Option.some.inj hf
      exact ⟨rfl, by show (cn 0).length ≤ 4096; rw [show cn 0 = [] from digs_zero B]; simp⟩
    · rw [if_neg hn] at hf
      unfold ofR at hf
      split at hf
      · refine ⟨canon_self (canon_ok hf), ?_⟩
        exact Nat.le_trans (cn_len_mono (Nat.le_trans (canon_le hf) (Nat.div_le_self _ _))) (Nat.le_trans (cn_val_le h1.w64) (by omega))
      · cases hf
  rw [decide_eq_false hd] at hiz
  clear hs hd hdp htz
  generalize ofW neg (val xs) (val ds) = O at *
  cases O with
  | none =>
    clear hok
    simp only [Option.isSome_none, Option.getD_none, Bool.false_eq_true, if_false] at hof
    go_enter Tryd.func3, Tryd.ntmps3
    go_wp2_with fail
    refine (hof _ (hT.ext HE.out) (h1.ext HE.out) (h2.ext HE.out)).mono ?_
    rintro z w2 ⟨u, rfl, ⟨v, rfl, ho2⟩, hb2⟩
    rw [show cn 0 = [] from digs_zero B] at ho2
    obtain ⟨A, c, rfl, -⟩ := ho2.rd
    simp only [List.length_nil]
    have hQ2 := HQ.out.ext hb2
    have hE2 := HE.out.tr hb2
    have hX := Bx.new w2 (.int .i64 0) (.bool false) (.int .i64 0) (.slice A 0 c)
    have hA := (Ext.refl w2).al (.cells #[.int .i64 0, .bool false, .int .i64 0, .slice A 0 c] 31)
    have hQ3 := hQ2.ext hA
    have hE3 := hE2.tr hA
    have hsz := hE2.size
    obtain ⟨q0, q1, q2, -⟩ := hQ3.facts
    have hno := fun w => none_c 0 0 false A 0 c w
    simp only [show decide ((0 : Int) = 0 ∧ false = false ∧ (0 : Int) = 0 ∧ (0 : Nat) = 0) = true from rfl] at hno
    go_wp2_with fail
    refine (hiz _ (h2.ext hE3)).mono ?_
    rintro z w4 ⟨rfl, rfl⟩
    go_wp2_with fail
    refine (hrf _ (h1.ext hE3) (h2.ext hE3)).mono ?_
    rintro z w5 ⟨u, rfl, hb5, -, k5, n5, e5, A5, m5, c5, rfl⟩
    have hAA := (Ext.refl w5).al (.cells #[.int .i64 k5, .bool n5, .int .i64 e5, .slice A5 m5 c5] 38)
    have hX5 := (hX.ext hb5).ext hAA
    have hE5 := (hE3.tr hb5).tr hAA
    clear q0 q1 q2
    obtain ⟨x0, x1, x2, x3, -⟩ := hX5.facts
    go_wp2_with fail
    refine (hno _).mono ?_
    rintro z w6 ⟨rfl, hb6⟩
    have hE6 := hE5.tr hb6
    go_wp2_with fail
    refine (haw _ hE6).mono ?_
    rintro z w7 ⟨rfl, hb7⟩
    go_wp2
    go_ret
    exact ⟨rfl, hE6.tr hb7⟩
  | some f =>
    obtain ⟨hcf, hlf⟩ := hok f rfl
    clear hok
    simp only [Option.isSome_some, Option.getD_some, if_true] at hof
    have hli := fun A A' c c' w h h' => lis_c f.kind f.kind f.exp f.exp f.neg f.neg A A' c c' (cn f.mag) (cn f.mag) w h h' hlf f (by rw [val_cn]; exact hcf)
    simp only [true_and, decide_true] at hli
    clear hcf hlf
    go_enter Tryd.func3, Tryd.ntmps3
    go_wp2_with fail
    refine (hof _ (hT.ext HE.out) (h1.ext HE.out) (h2.ext HE.out)).mono ?_
    rintro z w2 ⟨u, rfl, ⟨v, rfl, ho2⟩, hb2⟩
    obtain ⟨A, c, rfl, hr2⟩ := ho2.rd
    have hQ2 := HQ.out.ext hb2
    have hE2 := HE.out.tr hb2
    have hX := Bx.new w2 (.int .i64 f.kind) (.bool f.neg) (.int .i64 f.exp) (.slice A (cn f.mag).length c)
    have hA := (Ext.refl w2).al (.cells #[.int .i64 f.kind, .bool f.neg, .int .i64 f.exp, .slice A (cn f.mag).length c] 31)
    have hQ3 := hQ2.ext hA
    have hE3 := hE2.tr hA
    have hsz := hE2.size
    obtain ⟨q0, q1, q2, -⟩ := hQ3.facts
    go_wp2_with fail
    refine (hiz _ (h2.ext hE3)).mono ?_
    rintro z w4 ⟨rfl, rfl⟩
    go_wp2_with fail
    refine (hrf _ (h1.ext hE3) (h2.ext hE3)).mono ?_
    rintro z w5 ⟨u, rfl, hb5, hfl, -⟩
    obtain ⟨v, rfl, ho5⟩ := hfl f rfl
    obtain ⟨A5, c5, rfl, hr5⟩ := ho5.rd
    clear hfl
    have hY := Br.new w5 (.int .i64 f.kind) (.bool f.neg) (.int .i64 f.exp) (.slice A5 (cn f.mag).length c5)
    have hAA := (Ext.refl w5).al (.cells #[.int .i64 f.kind, .bool f.neg, .int .i64 f.exp, .slice A5 (cn f.mag).length c5] 38)
    have hX5 := (hX.ext hb5).ext hAA
    have hE5 := (hE3.tr hb5).tr hAA
    have hrA := ((hr2.ext hA).ext hb5).ext hAA
    have hrB := hr5.ext hAA
    clear q0 q1 q2
    obtain ⟨x0, x1, x2, x3, -⟩ := hX5.facts
    obtain ⟨y0, y1, y2, y3, -⟩ := hY.facts
    go_wp2_with fail
    refine (hli _ _ _ _ _ hrA hrB).mono ?_
    rintro z w6 ⟨rfl, hb6⟩
    have hE6 := hE5.tr hb6
    go_wp2_with fail
    refine (haw _ hE6).mono ?_
    rintro z w7 ⟨rfl, hb7⟩
    go_wp2
    go_ret
    exact ⟨rfl, hE6.tr hb7⟩
end Go.Proofs.YtknafhogaheacaaDoor
