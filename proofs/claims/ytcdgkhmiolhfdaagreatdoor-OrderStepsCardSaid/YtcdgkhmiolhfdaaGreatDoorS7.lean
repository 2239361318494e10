/- the reference's bits, Encode. the reference's Decode. -/
import Derived.Test.YtcdgkhmiolhfdaaGreatDoorS5
import Derived.Test.YtcdgkhmiolhfdaaGreatDoorT2
import Derived.Test.YtcdgkhmiolhfdaaGreatDoorF9
set_option linter.unusedVariables false
set_option linter.unusedSimpArgs false
namespace Go.Proofs.YtcdgkhmiolhfdaaGreatDoor
open Go.RowKit
attribute [local go_sem ↓] Go.wp_at_zero Go.wp_at_succ

theorem pow_i64 {n : Nat} (h : n ≤ 15) : ∃ P : Nat, (2 : Int) ^ n = (P : Int) ∧ P = 2 ^ n ∧ 1 ≤ P ∧ P ≤ 32768 := by
  refine ⟨2 ^ n, by rw [Int.natCast_pow]; rfl, rfl, Nat.pow_pos (by omega), ?_⟩
  exact Nat.le_trans (Nat.pow_le_pow_right (by omega) h) (by decide)
set_option maxHeartbeats 2000000 in
set_option maxRecDepth 100000 in
theorem rbits15_c (k p : Int) (hR : Rgt k p) (kd e : Int) (neg : Bool) (A : Option Addr) (c : Nat) (xs : List Nat) (w : World) (h : Rd w A c xs) (hl : xs.length ≤ 4096) (f : Fl) (hf : canon kd neg e (val xs) = some f) (hin : InF k p f) :
    Calls Tryz.prog 97 #[.agg #[.int .i64 k, .int .i64 p], flV kd neg e (.slice A xs.length c)] w fun z w' => ∃ v, z = .returned (.tuple #[.int .i64 (bitB k f), v]) ∧ Own w' w.heap.size v (cn (bitT k p f)) ∧ Ext w w' := by
  have hF := Bg.new w (.int .i64 k) (.int .i64 p)
  have hA := (Ext.refl w).al (.cells #[.int .i64 k, .int .i64 p] 51)
  have hF2 := hF.ext ((Ext.refl _).al (.cells #[.int .i64 kd, .bool neg, .int .i64 e, .slice A xs.length c] 40))
  have hA2 := hA.al (.cells #[.int .i64 kd, .bool neg, .int .i64 e, .slice A xs.length c] 40)
  have hX := Br.new (w.alloc (.cells #[.int .i64 k, .int .i64 p] 51)) (.int .i64 kd) (.bool neg) (.int .i64 e) (.slice A xs.length c)
  rw [World.size_alloc] at hX
  have hk2 := canon_kind hf
  have hokk := canon_ok hf
  have hok := hokk.kind
  have hcl := fun w h => rclass_c k p hR kd e neg A c xs w h hl f hf
  obtain ⟨hk1, hk2', hp1, hp2⟩ := hR
  obtain ⟨n, hkn⟩ := Int.eq_ofNat_of_zero_le (show 0 ≤ k by omega)
  obtain ⟨P, hP1, hP2, hP3, hP4⟩ := pow_i64 (n := n) (by omega)
  have e1 : IntKind.i64.wrap (p - 1) = p - 1 := by rw [IntKind.wrap_i64]; omega
  have e2 : IntKind.i64.wrap (p - 2) = p - 2 := by rw [IntKind.wrap_i64]; omega
  have HF := Lib.hid hF2
  have HA := Lib.hid hA2
  have HX := Lib.hid hX
  clear hF hA hF2 hA2 hX
  by_cases hk : kd = 1
  · subst hk
    obtain ⟨i1, i2, i3⟩ := hin hk2
    have hm := odd_pos hokk hk2
    have hbl := canon_bl hf
    obtain ⟨he1, he2⟩ : -1048576 ≤ e ∧ e ≤ 1048576 := by
      obtain ⟨-, h0, h1, h2⟩ := canon_fin hf
      exact ⟨h1, by omega⟩
    obtain ⟨hbl1, hcl1⟩ := canon_fin_bl (a := ⟨1, neg, e, A, c, xs⟩) hf h.w64 hl
    have hod := fun w h => rodd_c 1 e neg A c xs w h hl he1 he2
    have hfe : f.exp = e + tz (val xs) ∧ f.mag = val xs / 2 ^ tz (val xs) := by
      obtain ⟨rfl, -, -, -⟩ := canon_fin hf
      exact ⟨rfl, rfl⟩
    rw [← hfe.1, ← hfe.2] at hod
    have hg := gr_bd hk1 hk2'
    have hle : le k = 1 - gr k := rfl
    have hti : ti k p = 1 - gr k - (p - 1) := rfl
    have hex := fun w h => rexp_c 1 e neg A c xs w h hl he1 he2
    have hlo := hokk.lo
    have hhi := hokk.hi
    by_cases hs : f.exp + bl f.mag - 1 < le k
    · have hc1 : clsF k f = 1 := by unfold clsF; rw [if_neg (by omega), if_neg (by omega), if_neg (by omega), if_pos hs]
      have hB : bitB k f = 0 := by unfold bitB; rw [if_neg (by omega), if_pos hk2, if_pos hs]
      have hT : bitT k p f = f.mag * 2 ^ (f.exp - ti k p).toNat := by unfold bitT; rw [if_neg (by omega), if_pos hk2, if_pos hs]
      rw [hc1] at hcl
      rw [hB, hT]
      have htn := fun w => rtiny_c k p w ⟨hk1, hk2', hp1, hp2⟩
      have hlf := fun A2 c2 w h => rleft_i A2 c2 (cn f.mag) (f.exp - ti k p) w h (by omega) (by omega) (by omega)
      rw [val_cn] at hlf
      have e3 : IntKind.i64.wrap (f.exp - ti k p) = f.exp - ti k p := by rw [IntKind.wrap_i64]; omega
      generalize f.mag * 2 ^ (f.exp - ti k p).toNat = M at *
      generalize cn f.mag = ms at *
      generalize ti k p = T at *
      generalize f.exp = E at *
      subst hkn
      clear hB hT hc1 hs hle hti hg hfe hbl hm i1 i2 i3 hbl1 hex hP2 hf hin hokk hok hk2 hlo hhi
      go_enter Tryz.func97, Tryz.ntmps97
      go_wp2_with fail
      have hF := HF.out
      have hA := HA.out
      have hX := HX.out
      clear HF HA HX
      generalize ((w.alloc (.cells #[.int .i64 (n : Int), .int .i64 p] 51)).alloc (.cells #[.int .i64 1, .bool neg, .int .i64 e, .slice A xs.length c] 40)) = W at *
      refine (hcl _ (h.ext hA)).mono ?_
      rintro z w1 ⟨rfl, hb1⟩
      obtain ⟨f0, f1⟩ := (hF.ext hb1).facts
      obtain ⟨x0, x1, x2, x3, -⟩ := (hX.ext hb1).facts
      go_wp2_with fail
      refine (hod _ ((h.ext hA).ext hb1)).mono ?_
      rintro z w2 ⟨v, rfl, ho2, hb2⟩
      obtain ⟨A2, c2, rfl, hr2⟩ := ho2.rd
      clear f0 f1 x0 x1 x2 x3
      obtain ⟨f0, f1⟩ := ((hF.ext hb1).ext hb2).facts
      obtain ⟨x0, x1, x2, x3, -⟩ := ((hX.ext hb1).ext hb2).facts
      go_wp2_with fail
      refine (hcl _ (((h.ext hA).ext hb1).ext hb2)).mono ?_
      rintro z w3 ⟨rfl, hb3⟩
      clear f0 f1 x0 x1 x2 x3
      obtain ⟨f0, f1⟩ := (((hF.ext hb1).ext hb2).ext hb3).facts
      go_wp2_with fail
      refine (htn _).mono ?_
      rintro z w4 ⟨rfl, hb4⟩
      go_wp2_with fail
      refine (hlf A2 c2 _ ((hr2.ext hb3).ext hb4)).mono ?_
      rintro z w5 ⟨v, rfl, ho5, hb5⟩
      go_wp2
      go_ret2
      have hE := (((hA.tr hb1).tr hb2).tr hb3).tr hb4
      exact ⟨_, rfl, ho5.low hE.size, hE.tr hb5⟩
    · have hc1 : clsF k f = 2 := by unfold clsF; rw [if_neg (by omega), if_neg (by omega), if_neg (by omega), if_neg hs]
      have hB : ((bitB k f : Nat) : Int) = (bl (val xs) : Int) - 1 + e + gr k := by unfold bitB; rw [if_neg (by omega), if_pos hk2, if_neg hs]; omega
      have hT : bitT k p f = f.mag * 2 ^ (p - bl f.mag).toNat % 2 ^ (p - 1).toNat := by unfold bitT; rw [if_neg (by omega), if_pos hk2, if_neg hs]
      rw [hc1] at hcl
      rw [hB, hT]
      have hgt := fun w => rgreat_c k p w hk1 hk2'
      have hlf := fun A2 c2 w h => rleft_i A2 c2 (cn f.mag) (p - bl f.mag) w h (by omega) (by omega) (by omega)
      rw [val_cn] at hlf
      have hll : (cn (f.mag * 2 ^ (p - bl f.mag).toNat)).length ≤ 5 := by
        refine cn_len_pow (m := p.toNat) ?_ (by omega)
        have hb2 := bl_lt (n := f.mag)
        have : 2 ^ p.toNat = 2 ^ bl f.mag * 2 ^ (p - bl f.mag).toNat := by rw [← Nat.pow_add]; congr 1; omega
        rw [this]; exact Nat.mul_lt_mul_of_pos_right hb2 (Nat.pow_pos (by omega))
      have hlw := fun A2 c2 w h => rlow_i A2 c2 (cn (f.mag * 2 ^ (p - bl f.mag).toNat)) (p - 1) w h (by omega) (by omega) (by omega)
      rw [val_cn] at hlw
      have hlen := fun A2 c2 w h => rlen_c A2 c2 (cn f.mag) w h (by omega)
      rw [val_cn] at hlen
      have e3 : IntKind.i64.wrap (p - bl f.mag) = p - bl f.mag := by rw [IntKind.wrap_i64]; omega
      have e4 : IntKind.i64.wrap ((bl (val xs) : Int) - 1 + e + gr k) = (bl (val xs) : Int) - 1 + e + gr k := by rw [IntKind.wrap_i64]; omega
      have hlm : (cn f.mag).length ≤ 4096 := hcl1
      generalize f.mag * 2 ^ (p - bl f.mag).toNat % 2 ^ (p - 1).toNat = M2 at *
      generalize f.mag * 2 ^ (p - bl f.mag).toNat = M at *
      generalize cn f.mag = ms at *
      generalize cn M = Ms at *
      generalize (bl (val xs) : Int) - 1 + e = X1 at *
      generalize gr k = G at *
      generalize f.exp = E at *
      generalize bl f.mag = l at *
      subst hkn
      clear hB hT hc1 hs hle hti hg hfe hbl hm i1 i2 i3 hbl1 hP2 hf hin hokk hok hk2 hlo hhi
      go_enter Tryz.func97, Tryz.ntmps97
      go_wp2_with fail
      have hF := HF.out
      have hA := HA.out
      have hX := HX.out
      clear HF HA HX
      generalize ((w.alloc (.cells #[.int .i64 (n : Int), .int .i64 p] 51)).alloc (.cells #[.int .i64 1, .bool neg, .int .i64 e, .slice A xs.length c] 40)) = W at *
      refine (hcl _ (h.ext hA)).mono ?_
      rintro z w1 ⟨rfl, hb1⟩
      obtain ⟨f0, f1⟩ := (hF.ext hb1).facts
      obtain ⟨x0, x1, x2, x3, -⟩ := (hX.ext hb1).facts
      go_wp2_with fail
      refine (hod _ ((h.ext hA).ext hb1)).mono ?_
      rintro z w2 ⟨v, rfl, ho2, hb2⟩
      obtain ⟨A2, c2, rfl, hr2⟩ := ho2.rd
      clear f0 f1 x0 x1 x2 x3
      obtain ⟨f0, f1⟩ := ((hF.ext hb1).ext hb2).facts
      obtain ⟨x0, x1, x2, x3, -⟩ := ((hX.ext hb1).ext hb2).facts
      go_wp2_with fail
      refine (hcl _ (((h.ext hA).ext hb1).ext hb2)).mono ?_
      rintro z w3 ⟨rfl, hb3⟩
      clear f0 f1 x0 x1 x2 x3
      obtain ⟨x0, x1, x2, x3, -⟩ := (((hX.ext hb1).ext hb2).ext hb3).facts
      have hE3 := ((hA.tr hb1).tr hb2).tr hb3
      go_wp2_with fail
      refine (hex _ (h.ext hE3)).mono ?_
      rintro z w4 ⟨rfl, hb4⟩
      have hF4 := (((hF.ext hb1).ext hb2).ext hb3).ext hb4
      have hr4 := (hr2.ext hb3).ext hb4
      obtain ⟨f0, f1⟩ := hF4.facts
      clear x0 x1 x2 x3
      go_wp2_with fail
      go_region_held3 (fun w' => w'.cell? ⟨w.heap.size, 1, none⟩ = some (.int .i64 p))
        (first | go_keep | (refine Ext.cell (w := w4) (by assumption) ?_; assumption))
        (first
          | (go_at_call 103; (with_reducible refine (hlen A2 c2 _ hr4.drew).mono ?_); rintro z w5 ⟨rfl, rfl⟩)
          | (go_at_call 99; (with_reducible refine (hlf A2 c2 _ hr4.drew).mono ?_); rintro z w6 ⟨v, rfl, ho6, hb6⟩; have hE6 : Ext w4 w6 := (Ext.refl w4).drew.tr hb6; obtain ⟨A6, c6, rfl, hr6⟩ := ho6.rd))
      go_wp2_with fail
      obtain ⟨g0, g1⟩ := (hF4.ext hE6).facts
      clear f0 f1
      go_region_held3 (fun w' => w'.cell? ⟨w.heap.size, 0, none⟩ = some (.int .i64 (n : Int)) ∧ w'.cell? ⟨w.heap.size, 1, none⟩ = some (.int .i64 p))
        (first | go_keep | (go_split_ands; refine ⟨?_, ?_⟩ <;> (refine Ext.cell (w := w6) (by assumption) ?_; assumption)))
        (first
          | (go_at_call 110; (with_reducible refine (hgt _).mono ?_); rintro z w7 ⟨rfl, hb7⟩; have hE7 : Ext w6 w7 := (Ext.refl w6).drew.tr hb7)
          | (go_at_call 105; (with_reducible refine (hlw A6 c6 _ (hr6.ext hE7)).mono ?_); rintro z w8 ⟨v, rfl, ho8, hb8⟩; have hE8 : Ext w6 w8 := hE7.tr hb8))
      go_wp2
      go_ret2
      have hE := ((hE3.tr hb4).tr hE6).tr hE7
      exact ⟨_, rfl, ho8.low hE.size, hE.tr hb8⟩
  · have hBn : f.kind ≠ 0 → bitB k f = P - 1 := fun h0 => by unfold bitB; rw [if_neg h0, if_neg (by omega), hP2, show k.toNat = n by omega]
    rcases (show kd = 0 ∨ kd = 2 ∨ kd = 3 by omega) with rfl | rfl | rfl
    · have hc1 : clsF k f = 0 := by unfold clsF; rw [if_pos hk2]
      have hB : bitB k f = 0 := by unfold bitB; rw [if_pos hk2]
      have hT : bitT k p f = 0 := by unfold bitT; rw [if_pos hk2]
      rw [hc1] at hcl
      rw [hB, hT, show cn 0 = [] from digs_zero B]
      subst hkn
      clear hc1 hB hT hBn hf hin hokk hok hk2 hk hP2
      go_enter Tryz.func97, Tryz.ntmps97
      go_wp2_with (go_at_call 133; refine (hcl _ (h.ext HA.out)).mono ?_; rintro z w1 ⟨rfl, hb1⟩)
      go_ret2
      exact ⟨_, rfl, Own.nil _ _, HA.out.tr hb1⟩
    · have hc1 : clsF k f = 3 := by unfold clsF; rw [if_neg (by omega), if_pos hk2]
      have hT : bitT k p f = 0 := by unfold bitT; rw [if_neg (by omega), if_neg (by omega), if_neg (by omega)]
      rw [hc1] at hcl
      rw [hBn (by omega), hT, show cn 0 = [] from digs_zero B]
      have hPc : ((P - 1 : Nat) : Int) = (P : Int) - 1 := by omega
      rw [hPc]
      subst hkn
      clear hc1 hT hBn hf hin hokk hok hk2 hk hP2 hPc
      go_enter Tryz.func97, Tryz.ntmps97
      go_wp2_with (go_at_call 133; refine (hcl _ (h.ext HA.out)).mono ?_; rintro z w1 ⟨rfl, hb1⟩)
      go_ret2
      exact ⟨_, rfl, Own.nil _ _, HA.out.tr hb1⟩
    · have hc1 : clsF k f = 4 := by unfold clsF; rw [if_neg (by omega), if_neg (by omega), if_pos hk2]
      have hT : bitT k p f = 2 ^ (p - 2).toNat := by unfold bitT; rw [if_neg (by omega), if_neg (by omega), if_pos hk2]
      rw [hc1] at hcl
      rw [hBn (by omega), hT]
      have hPc : ((P - 1 : Nat) : Int) = (P : Int) - 1 := by omega
      rw [hPc]
      have hfw : ∀ w, Calls Tryz.prog 100 #[.int .u64 1] w (Res w (cn 1)) := fun w => rfrom_c 1 w (by decide +kernel)
      have hlf := fun A2 c2 w h => rleft_i A2 c2 (cn 1) (p - 2) w h (by omega) (by omega) (by have := (cn_len_le 1 1).2 (by decide +kernel); omega)
      rw [val_cn, Nat.one_mul] at hlf
      generalize 2 ^ (p - 2).toNat = M at *
      generalize cn 1 = ones at *
      subst hkn
      clear hc1 hT hBn hf hin hokk hok hk2 hk hP2 hPc
      go_enter Tryz.func97, Tryz.ntmps97
      go_wp2_with fail
      have hF := HF.out
      have hA := HA.out
      clear HF HA HX
      generalize ((w.alloc (.cells #[.int .i64 (n : Int), .int .i64 p] 51)).alloc (.cells #[.int .i64 3, .bool neg, .int .i64 e, .slice A xs.length c] 40)) = W at *
      refine (hcl _ (h.ext hA)).mono ?_
      rintro z w1 ⟨rfl, hb1⟩
      obtain ⟨f0, f1⟩ := (hF.ext hb1).facts
      go_wp2_with fail
      go_region_held3 (fun w' => w'.cell? ⟨w.heap.size, 1, none⟩ = some (.int .i64 p))
        (first | go_keep | (refine Ext.cell (w := w1) (by assumption) ?_; assumption))
        (first
          | (go_at_call 100; (with_reducible refine (hfw _).mono ?_); rintro z w5 ⟨v, rfl, ho5, hb5⟩; have hE5 : Ext w1 w5 := (Ext.refl w1).drew.tr hb5; obtain ⟨A5, c5, rfl, hr5⟩ := ho5.rd)
          | (go_at_call 99; (with_reducible refine (hlf A5 c5 _ hr5).mono ?_); rintro z w6 ⟨v, rfl, ho6, hb6⟩; have hE6 : Ext w1 w6 := hE5.tr hb6))
      go_wp2
      go_ret2
      have hE := (hA.tr hb1).tr hE5
      exact ⟨_, rfl, ho6.low hE.size, hE.tr hb6⟩
theorem rone_c (w : World) : Calls Tryz.prog 100 #[.int .u64 1] w (Res w (cn 1)) := rfrom_c 1 w (by decide +kernel)
theorem one_len : (cn 1).length ≤ 1 := (cn_len_le 1 1).2 (by decide +kernel)
set_option maxHeartbeats 2000000 in
set_option maxRecDepth 100000 in
theorem rencode_c (k p : Int) (hR : Rgt k p) (kd e : Int) (neg : Bool) (A : Option Addr) (c : Nat) (xs : List Nat) (w : World) (h : Rd w A c xs) (hl : xs.length ≤ 4096) (f : Fl) (hf : canon kd neg e (val xs) = some f) (hin : InF k p f) :
    Calls Tryz.prog 57 #[.agg #[.int .i64 k, .int .i64 p], flV kd neg e (.slice A xs.length c)] w (Res w (cn (encM k p f + if neg = true then 2 ^ (k + p - 1).toNat else 0))) := by
  obtain ⟨tot, htot⟩ : ∃ tot, encM k p f + (if neg = true then 2 ^ (k + p - 1).toNat else 0) = tot := ⟨_, rfl⟩
  rw [htot]
  have hF := Bg.new w (.int .i64 k) (.int .i64 p)
  have hA := (Ext.refl w).al (.cells #[.int .i64 k, .int .i64 p] 51)
  have hF2 := hF.ext ((Ext.refl _).al (.cells #[.int .i64 kd, .bool neg, .int .i64 e, .slice A xs.length c] 40))
  have hA2 := hA.al (.cells #[.int .i64 kd, .bool neg, .int .i64 e, .slice A xs.length c] 40)
  have hX := Br.new (w.alloc (.cells #[.int .i64 k, .int .i64 p] 51)) (.int .i64 kd) (.bool neg) (.int .i64 e) (.slice A xs.length c)
  rw [World.size_alloc] at hX
  have hokk := canon_ok hf
  have hbt := fun w h => rbits15_c k p hR kd e neg A c xs w h hl f hf hin
  have hBl := bitB_lt hR hokk hin
  have hTl := bitT_len hR hokk hin
  have hMl := encM_len hR hokk hin
  have heb := enc_bits hR hokk hin
  obtain ⟨hk1, hk2, hp1, hp2⟩ := hR
  have e1 : IntKind.i64.wrap (p - 1) = p - 1 := by rw [IntKind.wrap_i64]; omega
  have e2 : IntKind.i64.wrap (k + p) = k + p := by rw [IntKind.wrap_i64]; omega
  have e3 : IntKind.i64.wrap (k + p - 1) = k + p - 1 := by rw [IntKind.wrap_i64]; omega
  have HF := Lib.hid hF2
  have HA := Lib.hid hA2
  have HX := Lib.hid hX
  generalize bitB k f = b at *
  generalize bitT k p f = t at *
  generalize encM k p f = M at *
  have HTOT := Lib.hid htot
  clear htot
  have hbl1 : (cn b).length ≤ 1 := (cn_len_le b 1).2 (by rw [Nat.pow_one, B_eq]; omega)
  have hfw := fun w => rfrom_c b w (by rw [B_eq]; omega)
  have hlf := fun A2 c2 w h => rleft_i A2 c2 (cn b) (p - 1) w h (by omega) (by omega) (by omega)
  rw [val_cn] at hlf
  have hl2 : (cn (b * 2 ^ (p - 1).toNat)).length ≤ 5 := Nat.le_trans (cn_len_mono (by rw [← heb]; exact Nat.le_add_right _ _)) hMl
  have hc1 : IntKind.u64.wrap (b : Int) = (b : Int) := by rw [IntKind.wrap_u64]; omega
  have HEB := Lib.hid heb
  generalize b * 2 ^ (p - 1).toNat = L at *
  clear hF hA hF2 hA2 hX hf hin hokk heb
  go_enter Tryz.func57, Tryz.ntmps57
  go_wp2_with fail
  have hF := HF.out
  have hA := HA.out
  have hX := HX.out
  clear HF HA HX
  generalize ((w.alloc (.cells #[.int .i64 k, .int .i64 p] 51)).alloc (.cells #[.int .i64 kd, .bool neg, .int .i64 e, .slice A xs.length c] 40)) = W at *
  refine (hbt _ (h.ext hA)).mono ?_
  rintro z w1 ⟨v, rfl, hov, hb1⟩
  obtain ⟨A1, c1, rfl, hr1⟩ := hov.rd
  have hF1 := hF.ext hb1
  have hX1 := hX.ext hb1
  obtain ⟨f0, f1⟩ := hF1.facts
  have hE1 := hA.tr hb1
  clear hbt hA hb1 hF hX hov
  go_wp2_with fail
  go_region_held3 (fun w' => w'.cell? ⟨w.heap.size, 1, none⟩ = some (.int .i64 p))
    (first | go_keep | (refine Ext.cell (w := w1) (by assumption) ?_; assumption))
    (first
      | (go_at_call 100; (with_reducible refine (hfw _).mono ?_); rintro z w2 ⟨v, rfl, ho2, hb2⟩; have hE2 : Ext w1 w2 := (Ext.refl w1).drew.tr hb2; obtain ⟨A2, c2, rfl, hr2⟩ := ho2.rd)
      | (go_at_call 99; (with_reducible refine (hlf A2 c2 _ hr2).mono ?_); rintro z w3 ⟨v, rfl, ho3, hb3⟩; have hE3 : Ext w1 w3 := hE2.tr hb3; obtain ⟨A3, c3, rfl, hr3⟩ := ho3.rd)
      | (go_at_call 98; (with_reducible refine (radd_c A3 A1 c3 c1 (cn L) (cn t) _ hr3 (hr1.ext hE3) ?h1 ?h2).mono ?_); (case h1 => omega); (case h2 => omega); rintro z w4 ⟨v, rfl, ho4, hb4⟩; rw [val_cn, val_cn, HEB.out] at ho4; have hE4 : Ext w1 w4 := hE3.tr hb4; obtain ⟨A4, c4, rfl, hr4⟩ := ho4.rd))
  have hX4 := hX1.ext hE4
  have hF4 := hF1.ext hE4
  have ho4' := ho4.low ((hE1.tr hE3).size)
  have hE14 := hE1.tr hE4
  obtain ⟨x0, x1, x2, x3, -⟩ := hX4.facts
  clear f0 f1 hfw hlf
  cases neg
  · go_wp2
    go_ret
    have e : M = tot := by have := HTOT.out; simpa using this
    exact ⟨_, rfl, by rw [← e]; exact ho4', hE14⟩
  · have hlf := fun A2 c2 w h => rleft_i A2 c2 (cn 1) (k + p - 1) w h (by omega) (by omega) (by have := one_len; omega)
    rw [val_cn, Nat.one_mul] at hlf
    have hl5 : (cn (2 ^ (k + p - 1).toNat)).length ≤ 5 := cn_len_pow (m := (k + p - 1).toNat + 1) (Nat.pow_lt_pow_right (by omega) (by omega)) (by omega)
    have e : M + 2 ^ (k + p - 1).toNat = tot := by have := HTOT.out; simpa using this
    have HTO := Lib.hid e
    clear HTOT e
    generalize 2 ^ (k + p - 1).toNat = S at *
    have hone := rone_c
    generalize cn 1 = ones at *
    go_wp2_with fail
    obtain ⟨f0, f1⟩ := hF4.facts
    clear x0 x1 x2 x3
    go_region_held3 (fun w' => w'.cell? ⟨w.heap.size, 0, none⟩ = some (.int .i64 k) ∧ w'.cell? ⟨w.heap.size, 1, none⟩ = some (.int .i64 p))
      (first | go_keep | (go_split_ands; refine ⟨?_, ?_⟩ <;> (refine Ext.cell (w := w4) (by assumption) ?_; assumption)))
      (first
        | (go_at_call 100; (with_reducible refine (hone _).mono ?_); rintro z w5 ⟨v, rfl, ho5, hb5⟩; have hE5 : Ext w4 w5 := (Ext.refl w4).drew.tr hb5; obtain ⟨A5, c5, rfl, hr5⟩ := ho5.rd)
        | (go_at_call 99; (with_reducible refine (hlf A5 c5 _ hr5).mono ?_); rintro z w6 ⟨v, rfl, ho6, hb6⟩; have hE6 : Ext w4 w6 := hE5.tr hb6; obtain ⟨A6, c6, rfl, hr6⟩ := ho6.rd)
        | (go_at_call 98; (with_reducible refine (radd_c A4 A6 c4 c6 (cn M) (cn S) _ (hr4.ext hE6) hr6 ?h1 ?h2).mono ?_); (case h1 => omega); (case h2 => omega); rintro z w7 ⟨v, rfl, ho7, hb7⟩; rw [val_cn, val_cn] at ho7; have hE7 : Ext w4 w7 := hE6.tr hb7))
    go_wp2
    go_ret
    have hE := hE14.tr hE6
    rw [HTO.out] at ho7
    exact ⟨_, rfl, ho7.low hE.size, hE.tr hb7⟩
end Go.Proofs.YtcdgkhmiolhfdaaGreatDoor
namespace Go.Proofs.YtcdgkhmiolhfdaaGreatDoor
open Go.RowKit
attribute [local go_sem ↓] Go.wp_at_zero Go.wp_at_succ

theorem rbit_i (A : Option Addr) (c : Nat) (xs : List Nat) (I : Int) (w : World) (h : Rd w A c xs) (h0 : 0 ≤ I) (hi : I ≤ 1000000000) :
    Calls Tryz.prog 104 #[.slice A xs.length c, .int .i64 I] w fun e w' => e = .returned (.bool ((val xs).testBit I.toNat)) ∧ w = w' := by
  obtain ⟨i, rfl⟩ := Int.eq_ofNat_of_zero_le h0
  exact rbit_c A c xs i w h (by omega)
theorem rlow15_c (A : Option Addr) (c : Nat) (xs : List Nat) (w : World) (h : Rd w A c xs) : Calls Tryz.prog 106 #[.slice A xs.length c] w fun e w' => e = .returned (.int .u64 (xs.getD 0 0 : Nat)) ∧ w = w' := by
  by_cases h0 : xs.length = 0
  · obtain rfl := List.eq_nil_of_length_eq_zero h0
    go_enter Tryz.func106, Tryz.ntmps106
    go_wp2
    go_ret
    exact ⟨rfl, rfl⟩
  · obtain ⟨ad, rfl, hc⟩ := h.cell 0 (by omega)
    have hz : ((xs.length : Int) == 0) = false := by rw [beq_eq_false_iff_ne]; omega
    have hp : (0 : Int) < (xs.length : Int) := by omega
    have e0 : ad.add 0 = ad := by unfold Addr.add; simp
    rw [e0] at hc
    generalize xs.getD 0 0 = x at *
    clear h0
    go_enter Tryz.func106, Tryz.ntmps106
    go_wp2
    go_ret
    exact ⟨rfl, rfl⟩
theorem cn_low {m : Nat} (h : m < B) : (cn m).getD 0 0 = m := by
  rcases Nat.eq_zero_or_pos m with rfl | h0
  · rw [show cn 0 = [] from digs_zero B]; rfl
  · rw [show cn m = [m] by rw [cn, digs_pos two_le_B h0, Nat.mod_eq_of_lt h, Nat.div_eq_of_lt h, digs_zero]]; rfl
theorem dB_alt {k p : Int} {n : Nat} (h1 : 2 ≤ k) (h3 : 2 ≤ p) : n % 2 ^ (k + p - 1).toNat / 2 ^ (p - 1).toNat = dB k p n := by
  unfold dB
  rw [show (k + p - 1).toNat = (p.toNat - 1) + k.toNat by omega, show (p - 1).toNat = p.toNat - 1 by omega, Nat.pow_add, Nat.mod_mul_right_div_self]
/-- What the reference's Decode hands back. -/
def DecR (w : World) (ok : Bool) (f : Fl) (e : Ending) (w' : World) : Prop := ∃ u, e = .returned (.tuple #[u, .bool ok]) ∧ FlR w' w.heap.size f u ∧ Ext w w'
theorem DecR.plain {w w' : World} {ok : Bool} {kd : Int} {ng : Bool} (hE : Ext w w') : DecR w ok ⟨kd, ng, 0, 0⟩ (.returned (.tuple #[flV kd ng 0 (.slice none 0 0), .bool ok])) w' :=
  ⟨_, rfl, ⟨_, rfl, by rw [show cn 0 = [] from digs_zero B]; exact Own.nil _ _⟩, hE⟩
set_option maxHeartbeats 4000000 in
set_option maxRecDepth 100000 in
theorem rdecode_c (k p : Int) (hR : Rgt k p) (A : Option Addr) (c : Nat) (xs : List Nat) (w : World) (h : Rd w A c xs) (hl : xs.length ≤ 4096) :
    Calls Tryz.prog 60 #[.agg #[.int .i64 k, .int .i64 p], .slice A xs.length c] w (DecR w (decide ((bl (val xs) : Int) ≤ k + p)) (if (bl (val xs) : Int) ≤ k + p then decF k p (val xs) else ⟨0, false, 0, 0⟩)) := by
  have hF := Bg.new w (.int .i64 k) (.int .i64 p)
  have hA := (Ext.refl w).al (.cells #[.int .i64 k, .int .i64 p] 51)
  have hF2 := hF.ext ((Ext.refl _).al (.cells #[.int .i64 0, .bool false, .int .i64 0, .slice none 0 0] 40))
  have hA2 := hA.al (.cells #[.int .i64 0, .bool false, .int .i64 0, .slice none 0 0] 40)
  have hX := Br.new (w.alloc (.cells #[.int .i64 k, .int .i64 p] 51)) (.int .i64 0) (.bool false) (.int .i64 0) (.slice none 0 0)
  rw [World.size_alloc] at hX
  have HF := Lib.hid hF2
  have HA := Lib.hid hA2
  have HX := Lib.hid hX
  clear hF hA hF2 hA2 hX
  have hlen := fun w h => rlen_c A c xs w h (by omega)
  have hR0 := hR
  obtain ⟨hk1, hk2, hp1, hp2⟩ := hR
  obtain ⟨n, hkn⟩ := Int.eq_ofNat_of_zero_le (show 0 ≤ k by omega)
  obtain ⟨P, hP1, hP2, hP3, hP4⟩ := pow_i64 (n := n) (by omega)
  have e0 : IntKind.i64.wrap (k + p) = k + p := by rw [IntKind.wrap_i64]; omega
  have e1 : IntKind.i64.wrap (k + p - 1) = k + p - 1 := by rw [IntKind.wrap_i64]; omega
  have e2 : IntKind.i64.wrap (p - 1) = p - 1 := by rw [IntKind.wrap_i64]; omega
  by_cases hbl : (bl (val xs) : Int) ≤ k + p
  · rw [if_pos hbl, show decide ((bl (val xs) : Int) ≤ k + p) = true by simpa using hbl]
    have hd : decide (k + p < (bl (val xs) : Int)) = false := by simp; omega
    have hbit := fun w h => rbit_i A c xs (k + p - 1) w h (by omega) (by omega)
    have hlow1 := fun w h => rlow_i A c xs (p - 1) w h (by omega) (by omega) (by omega)
    have hlow2 := fun w h => rlow_i A c xs (k + p - 1) w h (by omega) (by omega) (by omega)
    have hml : ∀ m, (cn (val xs % m)).length ≤ 4096 := fun m => Nat.le_trans (cn_len_of_le h.w64 (Nat.mod_le _ _)) hl
    have hrt := fun A2 c2 w h => rright_i A2 c2 (cn (val xs % 2 ^ (k + p - 1).toNat)) (p - 1) w h (by omega) (by omega) (by have := hml (2 ^ (k + p - 1).toNat); omega)
    rw [val_cn, dB_alt hk1 hp1] at hrt
    have hdB : dB k p (val xs) < P := by
      unfold dB; rw [hP2, show k.toNat = n by omega]; exact Nat.mod_lt _ (Nat.pow_pos (by omega))
    have hlw := fun A2 c2 w h => rlow15_c A2 c2 (cn (dB k p (val xs))) w h
    rw [cn_low (by rw [B_eq]; omega)] at hlw
    have hdL : val xs % 2 ^ (p - 1).toNat = dL p (val xs) := by unfold dL; rw [show (p - 1).toNat = p.toNat - 1 by omega]
    have hLl := hml (2 ^ (p - 1).toNat)
    rw [hdL] at hlow1 hLl
    have hiz := fun A2 c2 w h => riszero_c A2 c2 (cn (dL p (val xs))) w h (by omega)
    rw [val_cn] at hiz
    have hdN : (val xs).testBit (k + p - 1).toNat = dN k p (val xs) := by unfold dN; rw [show (k + p - 1).toNat = k.toNat + p.toNat - 1 by omega]
    rw [hdN] at hbit
    have hcan := dec_can (k := k) (p := p) (n := val xs) hk1 hk2 hp1 hp2
    have hwb : IntKind.i64.wrap (dB k p (val xs) : Int) = dB k p (val xs) := by rw [IntKind.wrap_i64]; omega
    have hP5 : 2 ^ k.toNat - 1 = P - 1 := by rw [hP2, show k.toNat = n by omega]
    have hdF : decF k p (val xs) = if dB k p (val xs) = P - 1 then (if dL p (val xs) = 0 then ⟨2, dN k p (val xs), 0, 0⟩ else ⟨3, false, 0, 0⟩) else if dB k p (val xs) = 0 ∧ dL p (val xs) = 0 then ⟨0, dN k p (val xs), 0, 0⟩ else decF k p (val xs) := by
      unfold decF; rw [hP5]; split <;> (try split) <;> (try split) <;> rfl
    rw [hP5] at hcan
    have hdM0 : dB k p (val xs) = 0 → dM k p (val xs) = dL p (val xs) := fun h0 => by unfold dM; rw [if_pos h0]
    have hdM1 : dB k p (val xs) ≠ 0 → dM k p (val xs) = dL p (val xs) + 2 ^ (p - 1).toNat := fun h0 => by unfold dM; rw [if_neg h0, show (p - 1).toNat = p.toNat - 1 by omega]
    have hdE0 : dB k p (val xs) = 0 → dE k p (val xs) = ti k p := fun h0 => by unfold dE; rw [if_pos h0]
    have hdE1 : dB k p (val xs) ≠ 0 → dE k p (val xs) = dB k p (val xs) - gr k - p + 1 := fun h0 => by unfold dE; rw [if_neg h0]
    have hMl : (cn (dM k p (val xs))).length ≤ 4096 ∨ (dB k p (val xs) = P - 1 ∨ (dB k p (val xs) = 0 ∧ dL p (val xs) = 0)) := by
      by_cases hb1 : dB k p (val xs) = P - 1
      · exact .inr (.inl hb1)
      by_cases hz : dB k p (val xs) = 0 ∧ dL p (val xs) = 0
      · exact .inr (.inr hz)
      · obtain ⟨-, -, -, h4, -⟩ := hcan hb1 hz
        left
        have : (cn (dM k p (val xs))).length ≤ 5 := cn_len_pow ((bl_le _ _).1 (Nat.le_refl _)) (by omega)
        omega
    generalize val xs % 2 ^ (k + p - 1).toNat = n2 at *
    generalize dM k p (val xs) = dm at *
    generalize dE k p (val xs) = de at *
    generalize decF k p (val xs) = F at *
    generalize dN k p (val xs) = neg at *
    generalize dL p (val xs) = lo at *
    generalize dB k p (val xs) = b at *
    generalize bl (val xs) = l at *
    have HDF := Lib.hid hdF
    have HCAN := Lib.hid hcan
    have HM0 := Lib.hid hdM0
    have HM1 := Lib.hid hdM1
    have HE0 := Lib.hid hdE0
    have HE1 := Lib.hid hdE1
    have HML := Lib.hid hMl
    clear hdF hcan hdM0 hdM1 hdE0 hdE1 hMl hdL hdN hml hbl hP5
    obtain ⟨iz, hizb⟩ : ∃ iz, decide (lo = 0) = iz := ⟨_, rfl⟩
    rw [hizb] at hiz
    have HIZ := Lib.hid hizb
    subst hkn
    have key : b = P - 1 ∨ (b ≠ P - 1 ∧ b = 0) ∨ (b ≠ P - 1 ∧ b ≠ 0) := by omega
    have KEY := Lib.hid key
    clear hP2 key hizb
    go_enter Tryz.func60, Tryz.ntmps60
    go_wp2
    go_quiet (fail)
    have hF := HF.out
    have hA := HA.out
    have hX := HX.out
    clear HF HA HX
    generalize ((w.alloc (.cells #[.int .i64 (n : Int), .int .i64 p] 51)).alloc (.cells #[.int .i64 0, .bool false, .int .i64 0, .slice none 0 0] 40)) = W at *
    replace hF := hF.ext ((Ext.refl W).drewN nq)
    replace hX := hX.ext ((Ext.refl W).drewN nq)
    replace hA := hA.drewN nq
    generalize W.drewN nq = W1 at *
    go_wp2_with fail
    refine (hlen _ (h.ext hA)).mono ?_
    rintro z w1 ⟨rfl, rfl⟩
    go_wp2_with fail
    refine (hbit _ (h.ext hA)).mono ?_
    rintro z w1 ⟨rfl, rfl⟩
    go_wp2_with fail
    refine (hlow1 _ (h.ext hA)).mono ?_
    rintro z w2 ⟨v, rfl, ho2, hb2⟩
    obtain ⟨A1, c1, rfl, hr1⟩ := ho2.rd
    go_wp2_with fail
    refine (hlow2 _ (h.ext (hA.tr hb2))).mono ?_
    rintro z w3 ⟨v, rfl, ho3, hb3⟩
    obtain ⟨A2, c2, rfl, hr2⟩ := ho3.rd
    go_wp2_with fail
    refine (hrt A2 c2 _ hr2).mono ?_
    rintro z w6 ⟨v, rfl, ho4, hb4⟩
    obtain ⟨A3, c3, rfl, hr3⟩ := ho4.rd
    go_wp2_with fail
    refine (hlw A3 c3 _ hr3).mono ?_
    rintro z w1 ⟨rfl, rfl⟩
    have hr6 := (hr1.ext hb3).ext hb4
    have hF6 := ((hF.ext hb2).ext hb3).ext hb4
    have hX6 := ((hX.ext hb2).ext hb3).ext hb4
    have hE6 := ((hA.tr hb2).tr hb3).tr hb4
    clear hlen hbit hlow1 hlow2 hrt hlw hA hF hX ho2 ho3 ho4 hb2 hb3 hb4 hr1 hr2 hr3
    obtain ⟨x0, x1, x2, x3, xf⟩ := hX6.facts
    obtain ⟨f0, f1⟩ := hF6.facts
    have hlx := hX6.lt
    rcases KEY.out with hb | ⟨hb, hb0⟩ | ⟨hb, hb0⟩
    · have hbeq : ((b : Int) == (P : Int) - 1) = true := by rw [beq_iff_eq]; omega
      have HB := Lib.hid hb
      clear hb KEY
      cases iz
      · go_wp2_with (go_at_call 108; refine (hiz A1 c1 _ hr6).mono ?_; rintro z w7 ⟨rfl, rfl⟩)
        obtain ⟨q0, q1, q2, q3, -⟩ := (hX6.put (.int .i64 3) (.bool false) (.int .i64 0) (.slice none 0 0)).facts
        refine bodyPost_ret (v := .tuple #[flV 3 false 0 (.slice none 0 0), .bool true]) (by simp [results, Tryz.results60, go_sem, q0, q1, q2, q3]) rfl ?_
        have e := HDF.out
        rw [if_pos HB.out, if_neg (by simpa using HIZ.out)] at e
        rw [e]
        exact DecR.plain (hE6.put (by omega) _ _ _ _)
      · go_wp2_with (go_at_call 108; refine (hiz A1 c1 _ hr6).mono ?_; rintro z w7 ⟨rfl, rfl⟩)
        obtain ⟨q0, q1, q2, q3, -⟩ := (hX6.put (.int .i64 2) (.bool neg) (.int .i64 0) (.slice none 0 0)).facts
        refine bodyPost_ret (v := .tuple #[flV 2 neg 0 (.slice none 0 0), .bool true]) (by simp [results, Tryz.results60, go_sem, q0, q1, q2, q3]) rfl ?_
        have e := HDF.out
        rw [if_pos HB.out, if_pos (by simpa using HIZ.out)] at e
        rw [e]
        exact DecR.plain (hE6.put (by omega) _ _ _ _)
    · have hbeq : ((b : Int) == (P : Int) - 1) = false := by rw [beq_eq_false_iff_ne]; omega
      have hbz : ((b : Int) == 0) = true := by rw [beq_iff_eq]; omega
      have HB := Lib.hid hb
      have HB0 := Lib.hid hb0
      clear hb KEY hb0
      cases iz
      · have hlo : lo ≠ 0 := by simpa using HIZ.out
        obtain ⟨h1, h2, -, -, h5, -⟩ := HCAN.out HB.out (fun hh => hlo hh.2)
        rw [HM0.out HB0.out, HE0.out HB0.out] at h5
        have htn := fun w => rtiny_c (n : Int) p w hR0
        have hcn := fun w hr => rcanonical_c 1 (ti (n : Int) p) neg A1 c1 (cn lo) w hr (by omega) F (by rw [val_cn]; exact h5)
        generalize ti (n : Int) p = T at *
        clear h1 h2 h5 hlo HIZ HCAN HM0 HM1 HE0 HE1 HML HDF
        go_wp2_with fail
        refine (hiz A1 c1 _ hr6).mono ?_
        rintro z w7 ⟨rfl, rfl⟩
        go_wp2_with fail
        refine (htn _).mono ?_
        rintro z w7 ⟨rfl, hb7⟩
        go_wp2_with fail
        refine (hcn _ (hr6.ext hb7)).mono ?_
        rintro z w8 ⟨u, rfl, ⟨v, rfl, ho8⟩, hb8⟩
        obtain ⟨A8, c8, rfl, -⟩ := ho8.rd
        have hX8 := (hX6.ext hb7).ext hb8
        clear x0 x1 x2 x3 xf f0 f1
        obtain ⟨x0, x1, x2, x3, xf⟩ := hX8.facts
        have hlx8 := hX8.lt
        go_wp2
        obtain ⟨q0, q1, q2, q3, -⟩ := (hX8.put (.int .i64 F.kind) (.bool F.neg) (.int .i64 F.exp) (.slice A8 (cn F.mag).length c8)).facts
        refine bodyPost_ret (v := .tuple #[flV F.kind F.neg F.exp (.slice A8 (cn F.mag).length c8), .bool true]) (by simp [results, Tryz.results60, go_sem, q0, q1, q2, q3]) rfl ?_
        have hE7 := hE6.tr hb7
        have hlt7 := (hX6.ext hb7).lt
        exact ⟨_, rfl, ⟨_, rfl, (ho8.putBelow (g := w.heap.size + 1) hlt7 _ _ _ _).low hE7.size⟩, (hE7.tr hb8).put (by omega) _ _ _ _⟩
      · go_wp2_with (go_at_call 108; refine (hiz A1 c1 _ hr6).mono ?_; rintro z w7 ⟨rfl, rfl⟩)
        obtain ⟨q0, q1, q2, q3, -⟩ := (hX6.put (.int .i64 0) (.bool neg) (.int .i64 0) (.slice none 0 0)).facts
        refine bodyPost_ret (v := .tuple #[flV 0 neg 0 (.slice none 0 0), .bool true]) (by simp [results, Tryz.results60, go_sem, q0, q1, q2, q3]) rfl ?_
        have e := HDF.out
        rw [if_neg HB.out, if_pos ⟨HB0.out, by simpa using HIZ.out⟩] at e
        rw [e]
        exact DecR.plain (hE6.put (by omega) _ _ _ _)
    · have hbeq : ((b : Int) == (P : Int) - 1) = false := by rw [beq_eq_false_iff_ne]; omega
      have hbz : ((b : Int) == 0) = false := by rw [beq_eq_false_iff_ne]; omega
      obtain ⟨h1, h2, -, h4, h5, -⟩ := HCAN.out hb (fun hh => hb0 hh.1)
      have hml5 : (cn dm).length ≤ 5 := cn_len_pow ((bl_le _ _).1 (Nat.le_refl _)) (by omega)
      have hgt := fun w => rgreat_c (n : Int) p w hR0.1 hR0.2.1
      have hlf := fun A2 c2 w h => rleft_i A2 c2 (cn 1) (p - 1) w h (by omega) (by omega) (by have := one_len; omega)
      rw [val_cn, Nat.one_mul] at hlf
      have hdm := HM1.out hb0
      have hpl : (cn (2 ^ (p - 1).toNat)).length ≤ 5 := Nat.le_trans (cn_len_mono (by rw [hdm]; exact Nat.le_add_left _ _)) hml5
      have hcn := fun A9 c9 w hr => rcanonical_c 1 de neg A9 c9 (cn dm) w hr (by omega) F (by rw [val_cn]; exact h5)
      have hde := HE1.out hb0
      have w1 : IntKind.i64.wrap ((b : Int) - gr (n : Int)) = (b : Int) - gr (n : Int) := by have := gr_bd hR0.1 hR0.2.1; rw [IntKind.wrap_i64]; omega
      have w2 : IntKind.i64.wrap ((b : Int) - gr (n : Int) - p) = (b : Int) - gr (n : Int) - p := by have := gr_bd hR0.1 hR0.2.1; rw [IntKind.wrap_i64]; omega
      have w3 : IntKind.i64.wrap ((b : Int) - gr (n : Int) - p + 1) = de := by have := gr_bd hR0.1 hR0.2.1; rw [IntKind.wrap_i64]; omega
      have w4 : (b : Int) - gr (n : Int) - p + 1 = de := hde.symm
      have w5 : wrap64 de = de := by unfold wrap64; omega
      generalize gr (n : Int) = G at *
      generalize 2 ^ (p - 1).toNat = S at *
      have hone := rone_c
      generalize cn 1 = ones at *
      have HDM := Lib.hid hdm
      clear hdm hde h1 h2 h4 h5 HIZ HCAN HM0 HM1 HE0 HE1 HML HDF hb hb0 KEY hiz
      go_wp2_with fail
      refine (hgt _).mono ?_
      rintro z w7 ⟨rfl, hb7⟩
      go_wp2_with fail
      refine (hone _).mono ?_
      rintro z w8 ⟨v, rfl, ho8, hb8⟩
      obtain ⟨A8, c8, rfl, hr8⟩ := ho8.rd
      go_wp2_with fail
      refine (hlf A8 c8 _ hr8).mono ?_
      rintro z w9 ⟨v, rfl, ho9, hb9⟩
      obtain ⟨A9, c9, rfl, hr9⟩ := ho9.rd
      go_wp2_with fail
      refine (radd_c A1 A9 c1 c9 (cn lo) (cn S) _ (((hr6.ext hb7).ext hb8).ext hb9) hr9 (by omega) (by omega)).mono ?_
      rintro z w10 ⟨v, rfl, ho10, hb10⟩
      rw [val_cn, val_cn, ← HDM.out] at ho10
      obtain ⟨A10, c10, rfl, hr10⟩ := ho10.rd
      have hX10 := (((hX6.ext hb7).ext hb8).ext hb9).ext hb10
      have hE10 := (((hE6.tr hb7).tr hb8).tr hb9).tr hb10
      go_wp2_with fail
      refine (hcn A10 c10 _ hr10).mono ?_
      rintro z w11 ⟨u, rfl, ⟨v, rfl, ho11⟩, hb11⟩
      obtain ⟨A11, c11, rfl, -⟩ := ho11.rd
      have hX11 := hX10.ext hb11
      clear x0 x1 x2 x3 xf f0 f1
      obtain ⟨x0, x1, x2, x3, xf⟩ := hX11.facts
      have hlx11 := hX11.lt
      go_wp2
      obtain ⟨q0, q1, q2, q3, -⟩ := (hX11.put (.int .i64 F.kind) (.bool F.neg) (.int .i64 F.exp) (.slice A11 (cn F.mag).length c11)).facts
      refine bodyPost_ret (v := .tuple #[flV F.kind F.neg F.exp (.slice A11 (cn F.mag).length c11), .bool true]) (by simp [results, Tryz.results60, go_sem, q0, q1, q2, q3]) rfl ?_
      exact ⟨_, rfl, ⟨_, rfl, (ho11.putBelow (g := w.heap.size + 1) hX10.lt _ _ _ _).low hE10.size⟩, (hE10.tr hb11).put (by omega) _ _ _ _⟩
  · rw [if_neg hbl, show decide ((bl (val xs) : Int) ≤ k + p) = false by simpa using hbl]
    have hd : decide (k + p < (bl (val xs) : Int)) = true := by simp; omega
    generalize bl (val xs) = l at *
    clear hbl hP1 hP2 hP3 hP4 hkn hR0
    go_enter Tryz.func60, Tryz.ntmps60
    go_wp2
    go_quiet (fail)
    have hF := HF.out
    have hA := HA.out
    have hX := HX.out
    clear HF HA HX
    generalize ((w.alloc (.cells #[.int .i64 k, .int .i64 p] 51)).alloc (.cells #[.int .i64 0, .bool false, .int .i64 0, .slice none 0 0] 40)) = W at *
    go_wp2_with fail
    refine (hlen _ ((h.ext hA).drewN nq)).mono ?_
    rintro z w1 ⟨rfl, rfl⟩
    replace hX := hX.ext ((Ext.refl W).drewN nq)
    obtain ⟨x0, x1, x2, x3, xf⟩ := hX.facts
    have hlx := hX.lt
    go_wp2
    obtain ⟨q0, q1, q2, q3, -⟩ := (hX.put (.int .i64 0) (.bool false) (.int .i64 0) (.slice none 0 0)).facts
    refine bodyPost_ret (v := .tuple #[flV 0 false 0 (.slice none 0 0), .bool false]) (by simp [results, Tryz.results60, go_sem, q0, q1, q2, q3]) rfl ?_
    exact DecR.plain ((hA.drewN nq).put (by omega) _ _ _ _)
end Go.Proofs.YtcdgkhmiolhfdaaGreatDoor
