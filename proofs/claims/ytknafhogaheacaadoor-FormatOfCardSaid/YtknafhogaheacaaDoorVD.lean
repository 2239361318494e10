/- package wide: less in full. -/
import Derived.Test.YtknafhogaheacaaDoorVC
set_option linter.unusedVariables false
set_option linter.unusedSimpArgs false
namespace Go.Proofs.YtknafhogaheacaaDoor
open Go.RowKit

set_option maxHeartbeats 2000000 in
set_option maxRecDepth 100000 in
theorem less_c (g j q c cu : Nat) (A : Option Addr) (vs o0 : List Nat) (w : World) (hb : Bo w g o0) (h : Rd w A c vs) (hA : ∀ a, A = some a → a.block ≠ g) (hj : j + vs.length + 1 ≤ o0.length) (hol : o0.length ≤ 2000000000)
    (hq : q < B) (hz : val o0 < B ^ (j + vs.length + 1)) (hk : (q - 1) * (B ^ j * val vs) ≤ val o0) :
    Calls Tryd.prog 42 #[.slice (some ⟨g, j, none⟩) (vs.length + 1) cu, .slice A vs.length c, .int .u64 (q : Int)] w fun e w' =>
      e = .returned (.bool (decide (val o0 < q * (B ^ j * val vs)))) ∧ ∃ o, Bo w' g o ∧ o.length = o0.length ∧ val o = val o0 - (if val o0 < q * (B ^ j * val vs) then q - 1 else q) * (B ^ j * val vs) ∧ Kb (some ⟨g, 0, none⟩) w w' := by
  have hV := h.w64
  have HK := Lib.hid hk
  have HZ := Lib.hid hz
  clear hk hz
  generalize hU : val o0 = U at *
  have HU := Lib.hid hU
  clear hU
  generalize hbb : decide (U < q * (B ^ j * val vs)) = bb
  have HBB := Lib.hid hbb
  clear hbb
  go_enter Tryd.func42, Tryd.ntmps42
  go_wp2_with fail
  go_loopw [7, 8, 19] (fun v7 v8 v19 wr => LessI w g j q U vs o0 v7 v8 v19 wr) (fun _ _ v _ => vs.length - (intOf v).toNat)
  case atStart =>
    refine ⟨0, 0, 0, o0, Nat.zero_le _, rfl, rfl, rfl, B_pos, by omega, hb, rfl, ?_, rfl, Kb.refl _ _⟩
    rw [List.take_zero, show val [] = 0 from rfl, Nat.mul_zero, Nat.mul_zero, HU.out, Nat.zero_mul]
  case round =>
    obtain ⟨i, cy, bw, o, hi, rfl, rfl, rfl, hc, hbw, hbk, hl, hv, hdr, hkb⟩ := hrel
    by_cases hlt : i < vs.length
    · have hcell := hbk.cell (j + i) (by omega)
      have hfz := hbk.frozen (j + i)
      obtain ⟨ad, rfl, hx⟩ := h.cell i hlt
      have hbl : (ad.add i).block = ad.block := by unfold Addr.add; split <;> rfl
      have hx' := hkb.cellOf hx (by rw [hbl]; exact hA ad rfl)
      clear hx
      obtain ⟨x, hx⟩ : ∃ x, vs.getD i 0 = x := ⟨_, rfl⟩
      obtain ⟨y, hy⟩ : ∃ y, o.getD (j + i) 0 = y := ⟨_, rfl⟩
      have hxB : x < B := by rw [← hx]; exact hV.get i
      obtain ⟨lo, hlo⟩ : ∃ lo, (q * x % B + cy) % B = lo := ⟨_, rfl⟩
      obtain ⟨cc, hcc⟩ : ∃ cc, (q * x % B + cy) / B = cc := ⟨_, rfl⟩
      have HS := Lib.hid (fun v19 h19 => LessI.step hlt hc hbw hq hV hj hbk hl hv hdr hkb x y lo cc hx hy hlo hcc v19 h19)
      have hsum : q * x / B + cc < B := by rw [← hcc]; exact ls_carry B_pos hq hxB hc
      have hml := fun w => mul64 q x w hq hxB
      have had : ∀ w, (callFunc 53 #[.int .u64 ((q * x % B : Nat) : Int), .int .u64 (cy : Int), .int .u64 0]).run Tryd.prog w =
          .ok (.value (.tuple #[.int .u64 (lo : Int), .int .u64 (cc : Int)])) w := fun w => by
        have := run_a64 (q * x % B) cy 0 (by omega) w
        rw [Nat.add_zero, hlo, hcc] at this
        exact this
      have hsb := run_s64 y lo bw hbw
      rw [hx] at hx'
      rw [hy] at hcell
      generalize q * x % B = l0 at *
      generalize q * x / B = h0 at *
      have hwr : IntKind.u64.wrap ((h0 : Int) + (cc : Int)) = ((h0 + cc : Nat) : Int) := by
        rw [← Int.natCast_add]; exact u64_id hsum
      clear hx hy hlo hcc hc hbw hv hdr hl
      go_wp2_with (first | (go_at_call 57; refine (hml _).mono ?_; rintro z w2 ⟨rfl, rfl⟩) | (simp only [had]) | (simp only [hsb]))
      go_roundw
      case rel => exact HS.out _ (by go_num)
      case measure => simp [intOf]; omega
    · obtain rfl : i = vs.length := by omega
      have hcell := hbk.cell (j + vs.length) (by omega)
      have hfz := hbk.frozen (j + vs.length)
      obtain ⟨y, hy⟩ : ∃ y, o.getD (j + vs.length) 0 = y := ⟨_, rfl⟩
      obtain ⟨s, hs⟩ : ∃ s, (y + B - cy - bw) % B = s := ⟨_, rfl⟩
      obtain ⟨b2, hb2⟩ : ∃ b2, brw y cy bw = b2 := ⟨_, rfl⟩
      have hb21 := brw_le y cy bw
      have hsb := run_s64 y cy bw hbw
      rw [hs, hb2] at hsb
      rw [hb2] at hb21
      rw [hy] at hcell
      obtain ⟨o2, hB2, hl2, hv2, hd2, hk2⟩ := less_last hc hbw hj hbk hl hv hdr hkb y s b2 hy hs hb2
      have HB2 := Lib.hid hB2
      have HL2 := Lib.hid hl2
      have HV2 := Lib.hid hv2
      have HD2 := Lib.hid hd2
      have HK2 := Lib.hid hk2
      clear hB2 hl2 hv2 hd2 hk2 hy hs hb2 hc hbw hv hdr hl
      rcases (show b2 = 0 ∨ b2 = 1 by omega) with rfl | rfl
      · have hsb0 : ∀ w, (callFunc 52 #[.int .u64 (y : Int), .int .u64 (cy : Int), .int .u64 (bw : Int)]).run Tryd.prog w =
            .ok (.value (.tuple #[.int .u64 (s : Int), .int .u64 0])) w := hsb
        clear hsb
        obtain ⟨hno, hval⟩ := ls_no HV2.out
        obtain rfl : bb = false := by rw [← HBB.out]; exact decide_eq_false hno
        have HNO := Lib.hid hno
        have HVV := Lib.hid hval
        clear hno hval
        go_wp2_with (simp only [hsb0])
        go_ret
        exact ⟨rfl, _, HB2.out, HL2.out, by first | exact HVV.out | rw [HVV.out, if_neg HNO.out], HK2.out⟩
      · have hsb1 : ∀ w, (callFunc 52 #[.int .u64 (y : Int), .int .u64 (cy : Int), .int .u64 (bw : Int)]).run Tryd.prog w =
            .ok (.value (.tuple #[.int .u64 (s : Int), .int .u64 1])) w := hsb
        clear hsb
        have hlow := val_low HB2.out.w64 hb.w64 HD2.out (by rw [HU.out]; exact HZ.out)
        have hyes := ls_yes HV2.out hlow
        obtain rfl : bb = true := by rw [← HBB.out]; exact decide_eq_true hyes
        have HYES := Lib.hid hyes
        have HLOW := Lib.hid hlow
        clear hyes hlow
        obtain ⟨wr2, hwr2⟩ : ∃ wr2, wr.setCell ⟨g, j + vs.length, none⟩ (.int .u64 (s : Int)) = wr2 := ⟨_, rfl⟩
        have HWR := Lib.hid hwr2
        rw [hwr2] at HB2 HK2
        clear hwr2
        go_wp2_with (simp only [hsb1])
        go_loopw [14, 72] (fun v14 v72 wq => BackI w g j (val o2) vs o0 v14 v72 wq) (fun _ v _ => vs.length - (intOf v).toNat)
        case atStart =>
          refine ⟨0, 0, o2, Nat.zero_le _, rfl, rfl, by omega, ?_, HL2.out, ?_, HD2.out, ?_⟩
          · first | exact HB2.out | (rw [← HWR.out] at HB2; exact HB2.out) | (rw [HWR.out]; exact HB2.out)
          · rw [List.take_zero, show val [] = 0 from rfl, Nat.mul_zero, Nat.zero_mul]
          · first | exact HK2.out | (rw [← HWR.out] at HK2; exact HK2.out) | (rw [HWR.out]; exact HK2.out)
        case round =>
          obtain ⟨i, cy, o3, hi, rfl, rfl, hc, hbk3, hl3, hv3, hdr3, hkb3⟩ := hrel
          by_cases hlt : i < vs.length
          · have hcell3 := hbk3.cell (j + i) (by omega)
            have hfz3 := hbk3.frozen (j + i)
            obtain ⟨ad, rfl, hx⟩ := h.cell i hlt
            have hbl : (ad.add i).block = ad.block := by unfold Addr.add; split <;> rfl
            have hx' := hkb3.cellOf hx (by rw [hbl]; exact hA ad rfl)
            clear hx
            obtain ⟨x, hx⟩ : ∃ x, vs.getD i 0 = x := ⟨_, rfl⟩
            obtain ⟨y3, hy3⟩ : ∃ y3, o3.getD (j + i) 0 = y3 := ⟨_, rfl⟩
            have HS := Lib.hid (fun v72 h72 => BackI.step hlt hc hV hj hbk3 hl3 hv3 hdr3 hkb3 x y3 hx hy3 v72 h72)
            have had := run_a64 y3 x cy hc
            rw [hx] at hx'
            rw [hy3] at hcell3
            clear hx hy3 hc hv3 hdr3 hl3 hcell hfz hsb1
            go_wp2_with (simp only [had])
            go_roundw
            case rel => exact HS.out _ (by go_num)
            case measure => simp [intOf]; omega
          · obtain rfl : i = vs.length := by omega
            have hcell3 := hbk3.cell (j + vs.length) (by omega)
            have hfz3 := hbk3.frozen (j + vs.length)
            obtain ⟨y3, hy3⟩ : ∃ y3, o3.getD (j + vs.length) 0 = y3 := ⟨_, rfl⟩
            obtain ⟨s3, hs3⟩ : ∃ s3, (y3 + cy) % B = s3 := ⟨_, rfl⟩
            rw [hy3] at hcell3
            have hwr : IntKind.u64.wrap ((y3 : Int) + (cy : Int)) = ((s3 : Nat) : Int) := by
              rw [← hs3, IntKind.wrap_u64, B_eq]; omega
            obtain ⟨o4, c4, hB4, hl4, hc4, hv4, hd4, hk4⟩ := back_last hj hbk3 hl3 hc hv3 hdr3 hkb3 y3 s3 hy3 hs3
            have hlow4 := val_low hB4.w64 hb.w64 hd4 (by rw [HU.out]; exact HZ.out)
            have hq0 : 0 < q := by
              rcases Nat.eq_zero_or_pos q with h0 | h0
              · have := HYES.out
                rw [h0, Nat.zero_mul] at this
                omega
              · exact h0
            obtain ⟨_, hval⟩ := ls_rest HV2.out hq0 HLOW.out HK.out hv4 hlow4 hc4 HZ.out
            have HB4 := Lib.hid hB4
            have HL4 := Lib.hid hl4
            have HVV := Lib.hid hval
            have HK4 := Lib.hid hk4
            clear hB4 hl4 hv4 hd4 hk4 hval hs3 hy3 hc hv3 hdr3 hl3 hcell hfz hsb1
            go_wp2_with fail
            go_ret
            exact ⟨rfl, _, HB4.out, HL4.out, by first | exact HVV.out | rw [HVV.out, if_pos HYES.out], HK4.out⟩
end Go.Proofs.YtknafhogaheacaaDoor
