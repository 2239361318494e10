/- the laws' own awake. -/
import Derived.Test.YtknafhogaheacaaDoorG1
set_option linter.unusedVariables false
set_option linter.unusedSimpArgs false
namespace Go.Proofs.YtknafhogaheacaaDoor
open Go.RowKit
attribute [local go_sem ↓] Go.wp_at_zero Go.wp_at_succ

theorem cn_small {x : Nat} (h0 : 0 < x) (h : x < B) : cn x = [x] := by
  rw [cn, digs_pos two_le_B h0, Nat.mod_eq_of_lt h, Nat.div_eq_of_lt h, digs_zero]
theorem add_0 (a : Addr) : a.add 0 = a := by unfold Addr.add; split <;> simp_all
theorem rgt_half : Rgt 5 11 := by unfold Rgt; omega
theorem dec_half : decF 5 11 15872 = ⟨1, false, -1, 3⟩ := by
  have h : tz 1536 = 9 := tz_unique 9 1
  have hb : dB 5 11 15872 = 15 := by decide +kernel
  have hl : dL 11 15872 = 512 := by decide +kernel
  have hn : dN 5 11 15872 = false := by decide +kernel
  have hm : dM 5 11 15872 = 1536 := by unfold dM; rw [hb, hl]; rfl
  have he : dE 5 11 15872 = -10 := by unfold dE; rw [hb]; rfl
  unfold decF
  rw [hb, hl, hn, hm, he, h]; rfl
theorem dece_half : decE 5 11 [15872] = 0 := by
  unfold decE
  have hv : val [15872] = 15872 := val_one _
  have hb : bl 15872 = 14 := bl_unique (by decide) (by decide)
  rw [if_neg (by simp), if_pos rgt_half, hv, hb, if_neg (by omega)]
def zeroFA : FA := ⟨0, true, 0, none, 0, []⟩
theorem can_zeroFA : zeroFA.can = some ⟨0, true, 0, 0⟩ := by simp [FA.can, zeroFA, canon, valb]
theorem flt_half : fltE 5 11 zeroFA = 0 := by
  unfold fltE
  rw [FlsS_one, if_neg (by simp [zeroFA]), if_pos rgt_half, can_zeroFA]
  simp [holdS, InF]
theorem enc_half : encN 5 11 zeroFA = 32768 := by
  unfold encN
  rw [if_pos flt_half, can_zeroFA]
  decide +kernel
set_option maxHeartbeats 4000000 in
set_option maxRecDepth 100000 in
theorem awake_c (w : World) (hT : Tab w) (hM : MapT w) : Calls Tryd.prog 4 #[] w fun e w' => e = .returned (.bool true) ∧ Ext w w' := by
  have hnm := fun w hM => named_c ⟨#[104, 97, 108, 102]⟩ w hM (by decide)
  have e1 : nmKP (ByteArray.mk #[104, 97, 108, 102]).data.toList = some (5, 11) := by decide +kernel
  rw [e1] at hnm
  simp only [nmV, Option.getD, Option.isSome] at hnm
  have hrg := fun w => range_yes 5 11 w rgt_half
  have g1 : gr 5 = 15 := by decide +kernel
  have g2 : le 5 = -14 := by decide +kernel
  have g3 : ti 5 11 = -24 := by decide +kernel
  rw [g1, g2, g3] at hrg
  have hdc := fun A c w hT h => decode_c 5 11 A c [15872] w hT h
  rw [dece_half, if_pos rfl, val_one, dec_half] at hdc
  have hen := fun w hT h => encode_c 5 11 zeroFA w hT h
  rw [flt_half, enc_half] at hen
  have hck := fun w => check_c 1 9 w
  rw [show fmtE 1 9 = 150 from fmtE_no (by unfold Rgt; omega)] at hck
  clear e1 g1 g2 g3
  go_enter Tryd.func4, Tryd.ntmps4
  go_wp2_with fail
  refine (hnm w hM).mono ?_
  rintro e w1 ⟨rfl, hb1⟩
  have hF1 := Bf.new w1 (.int .i64 5) (.int .i64 11)
  have hA1 := (Ext.refl w1).al (Obj.cells #[.int .i64 5, .int .i64 11] 44)
  have hE1 := hb1.tr hA1
  obtain ⟨f0, f1⟩ := hF1.facts
  go_wp2_with fail
  refine (hrg _).mono ?_
  rintro e w2 ⟨rfl, hb2⟩
  have hF2 := hF1.ext hb2
  have hE2 := hE1.tr hb2
  clear f0 f1
  obtain ⟨f0, f1⟩ := hF2.facts
  have hl2 := hF2.lt
  go_wp2_with fail
  have hA3 := (Ext.refl w2).al (Obj.cells #[Value.int IntKind.u64 15872] 50)
  refine (hdc _ 1 _ (hT.ext (hE2.tr hA3)) (Rd.new1 w2 15872 (by decide +kernel))).mono ?_
  rintro e w3 ⟨u, rfl, hfl, hb3⟩
  obtain ⟨v, rfl, ho3⟩ := hfl
  obtain ⟨A3, c3, rfl, hr3⟩ := ho3.rd
  have hc3 : cn 3 = [3] := cn_small (by omega) (by decide +kernel)
  simp only [hc3] at hr3 ho3 ⊢
  have hA := hA3.tr hb3
  have hF3 := hF2.ext hA
  have hE3 := hE2.tr hA
  clear f0 f1 hl2
  have hX3 := Bx.new w3 (.int .i64 1) (.bool false) (.int .i64 (-1)) (.slice A3 1 c3)
  have hA4 := (Ext.refl w3).al (Obj.cells #[.int .i64 1, .bool false, .int .i64 (-1), .slice A3 1 c3] 31)
  have hF4 := hF3.ext hA4
  have hE4 := hE3.tr hA4
  have hr4 := hr3.ext hA4
  obtain ⟨f0, f1⟩ := hF3.facts
  have hl3 := hF3.lt
  go_wp2_with fail
  refine (hen _ (hT.ext hE4) (Rd.nil _ _ _)).mono ?_
  rintro e w5 ⟨v, rfl, ho5, hb5⟩
  obtain ⟨A5, c5, rfl, hr5⟩ := ho5.rd
  have hc5 : cn 32768 = [32768] := cn_small (by omega) (by decide +kernel)
  simp only [hc5] at hr5 ho5 ⊢
  have hF5 := hF4.ext hb5
  have hX5 := hX3.ext hb5
  have hE5 := hE4.tr hb5
  have hr35 := hr4.ext hb5
  obtain ⟨a3, rfl⟩ := hr35.addr (by simp)
  obtain ⟨a5, rfl⟩ := hr5.addr (by simp)
  have z3 := hr35.get 0 (by simp)
  have z5 := hr5.get 0 (by simp)
  rw [add_0] at z3 z5
  simp at z3 z5
  clear f0 f1 hl3
  obtain ⟨f0, f1⟩ := hF5.facts
  obtain ⟨x0, x1, x2, x3, -⟩ := hX5.facts
  go_wp2_with fail
  refine (hck _).mono ?_
  rintro e w6 ⟨rfl, hb6⟩
  go_wp2
  go_ret
  exact ⟨rfl, hE5.tr hb6⟩
end Go.Proofs.YtknafhogaheacaaDoor
