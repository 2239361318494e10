/- the reference's bits, Encode. -/
import Derived.Test.YtplnaajoeoiieaaDoorS5
set_option linter.unusedVariables false
set_option linter.unusedSimpArgs false
namespace Go.Proofs.YtplnaajoeoiieaaDoor
open Go.RowKit
attribute [local go_sem ↓] Go.wp_at_zero Go.wp_at_succ

def bitB (k : Int) (f : Fl) : Nat := if f.kind = 0 then 0 else if f.kind = 1 then (if f.exp + bl f.mag - 1 < le k then 0 else (f.exp + bl f.mag - 1 + gr k).toNat) else 2 ^ k.toNat - 1
def bitT (k p : Int) (f : Fl) : Nat := if f.kind = 0 then 0 else if f.kind = 1 then (if f.exp + bl f.mag - 1 < le k then f.mag * 2 ^ (f.exp - ti k p).toNat else f.mag * 2 ^ (p - bl f.mag).toNat % 2 ^ (p - 1).toNat) else if f.kind = 3 then 2 ^ (p - 2).toNat else 0
theorem odd_pos {f : Fl} (hf : f.Ok) (h1 : f.kind = 1) : 0 < f.mag := by have := hf.odd h1; omega
theorem enc_bits {k p : Int} {f : Fl} (hR : Rgt k p) (hf : f.Ok) (hin : InF k p f) : bitB k f * 2 ^ (p - 1).toNat + bitT k p f = encM k p f := by
  obtain ⟨hk1, hk2, hp1, hp2⟩ := hR
  have e1 : (p - 1).toNat = p.toNat - 1 := by omega
  have e2 : (p - 2).toNat = p.toNat - 2 := by omega
  unfold bitB bitT encM
  rw [e1, e2]
  by_cases h0 : f.kind = 0
  · rw [if_pos h0, if_pos h0, if_pos h0]; simp
  rw [if_neg h0, if_neg h0, if_neg h0]
  by_cases h1 : f.kind = 1
  · rw [if_pos h1, if_pos h1, if_pos h1]
    obtain ⟨i1, i2, i3⟩ := hin h1
    have hm := odd_pos hf h1
    by_cases hs : f.exp + bl f.mag - 1 < le k
    · rw [if_pos hs, if_pos hs, if_pos hs]; simp
    · rw [if_neg hs, if_neg hs, if_neg hs]
      have hb1 := bl_ge hm
      have hb2 := bl_lt (n := f.mag)
      have hb3 := bl_pos hm
      have hle : le k = 1 - gr k := rfl
      have hE : (f.exp + bl f.mag - 1 + gr k).toNat = (f.exp + bl f.mag - 1 + gr k - 1).toNat + 1 := by omega
      rw [hE]
      have x1 : 2 ^ (p.toNat - 1) ≤ f.mag * 2 ^ (p - bl f.mag).toNat := by
        have : 2 ^ (p.toNat - 1) = 2 ^ (bl f.mag - 1) * 2 ^ (p - bl f.mag).toNat := by rw [← Nat.pow_add]; congr 1; omega
        rw [this]; exact Nat.mul_le_mul_right _ hb1
      have x2 : f.mag * 2 ^ (p - bl f.mag).toNat < 2 * 2 ^ (p.toNat - 1) := by
        have : 2 * 2 ^ (p.toNat - 1) = 2 ^ bl f.mag * 2 ^ (p - bl f.mag).toNat := by rw [← Nat.pow_succ', ← Nat.pow_add]; congr 1; omega
        rw [this]; exact Nat.mul_lt_mul_of_pos_right hb2 (Nat.pow_pos (by omega))
      generalize f.mag * 2 ^ (p - bl f.mag).toNat = x at *
      generalize 2 ^ (p.toNat - 1) = q at *
      have : x % q = x - q := by rw [Nat.mod_eq_sub_mod x1, Nat.mod_eq_of_lt (by omega)]
      rw [this, Nat.add_mul]
      omega
  · rw [if_neg h1, if_neg h1, if_neg h1]
theorem bitB_lt {k p : Int} {f : Fl} (hR : Rgt k p) (hf : f.Ok) (hin : InF k p f) : bitB k f < 65536 := by
  obtain ⟨hk1, hk2, hp1, hp2⟩ := hR
  have hg := gr_bd hk1 hk2
  have hlt : 2 ^ k.toNat ≤ 2 ^ 15 := Nat.pow_le_pow_right (by omega) (by omega)
  unfold bitB
  split
  · omega
  · split
    · rename_i h1
      obtain ⟨i1, i2, i3⟩ := hin h1
      split <;> omega
    · omega
theorem bitT_len {k p : Int} {f : Fl} (hR : Rgt k p) (hf : f.Ok) (hin : InF k p f) : (cn (bitT k p f)).length ≤ 5 :=
  Nat.le_trans (cn_len_mono (by rw [← enc_bits hR hf hin]; exact Nat.le_add_left _ _)) (encM_len hR hf hin)
theorem pow_i64 {n : Nat} (h : n ≤ 15) : ∃ P : Nat, (2 : Int) ^ n = (P : Int) ∧ P = 2 ^ n ∧ 1 ≤ P ∧ P ≤ 32768 := by
  refine ⟨2 ^ n, by rw [Int.natCast_pow]; rfl, rfl, Nat.pow_pos (by omega), ?_⟩
  exact Nat.le_trans (Nat.pow_le_pow_right (by omega) h) (by decide)
set_option maxHeartbeats 2000000 in
set_option maxRecDepth 100000 in
theorem rbits15_c (k p : Int) (hR : Rgt k p) (kd e : Int) (neg : Bool) (A : Option Addr) (c : Nat) (xs : List Nat) (w : World) (h : Rd w A c xs) (hl : xs.length ≤ 4096) (f : Fl) (hf : canon kd neg e (val xs) = some f) (hin : InF k p f) :
    Calls Tryd.prog 71 #[.agg #[.int .i64 k, .int .i64 p], flV kd neg e (.slice A xs.length c)] w fun z w' => ∃ v, z = .returned (.tuple #[.int .i64 (bitB k f), v]) ∧ Own w' w.heap.size v (cn (bitT k p f)) ∧ Ext w w' := by
  have hF := Bg.new w (.int .i64 k) (.int .i64 p)
  have hA := (Ext.refl w).al (.cells #[.int .i64 k, .int .i64 p] 28)
  have hF2 := hF.ext ((Ext.refl _).al (.cells #[.int .i64 kd, .bool neg, .int .i64 e, .slice A xs.length c] 43))
  have hA2 := hA.al (.cells #[.int .i64 kd, .bool neg, .int .i64 e, .slice A xs.length c] 43)
  have hX := Br.new (w.alloc (.cells #[.int .i64 k, .int .i64 p] 28)) (.int .i64 kd) (.bool neg) (.int .i64 e) (.slice A xs.length c)
  rw [World.size_alloc] at hX
  have hk2 := canon_kind hf
  have hokk := canon_ok hf
  have hok := hokk.kind
  have hcl := fun w h => rclass_c k p hR kd e neg A c xs w h hl f hf
  obtain ⟨hk1, hk2', hp1, hp2⟩ := hR
  obtain ⟨n, hkn⟩ := Int.eq_ofNat_of_zero_le (show 0 ≤ k by omega)
  obtain ⟨P, hP1, hP2, hP3, hP4⟩ := pow_i64 (n := n) (by omega)
  have e1 : IntKind.i64.wrap (p - 1) = p - 1 := by rw [IntKind.wrap_i64]; omega
  have e2 : IntKind.i64.wrap (p - 2) = p - 2 := by rw [IntKind.wrap_i64]; omega
  have HF := Lib.hid hF2
  have HA := Lib.hid hA2
  have HX := Lib.hid hX
  clear hF hA hF2 hA2 hX
  by_cases hk : kd = 1
  · subst hk
    obtain ⟨i1, i2, i3⟩ := hin hk2
    have hm := odd_pos hokk hk2
    have hbl := canon_bl hf
    obtain ⟨he1, he2⟩ : -1048576 ≤ e ∧ e ≤ 1048576 := by
      obtain ⟨-, h0, h1, h2⟩ := canon_fin hf
      exact ⟨h1, by omega⟩
    obtain ⟨hbl1, hcl1⟩ := canon_fin_bl (a := ⟨1, neg, e, A, c, xs⟩) hf h.w64 hl
    have hod := fun w h => rodd_c 1 e neg A c xs w h hl he1 he2
    have hfe : f.exp = e + tz (val xs) ∧ f.mag = val xs / 2 ^ tz (val xs) := by
      obtain ⟨rfl, -, -, -⟩ := canon_fin hf
      exact ⟨rfl, rfl⟩
    rw [← hfe.1, ← hfe.2] at hod
    have hg := gr_bd hk1 hk2'
    have hle : le k = 1 - gr k := rfl
    have hti : ti k p = 1 - gr k - (p - 1) := rfl
    have hex := fun w h => rexp_c 1 e neg A c xs w h hl he1 he2
    have hlo := hokk.lo
    have hhi := hokk.hi
    by_cases hs : f.exp + bl f.mag - 1 < le k
    · have hc1 : clsF k f = 1 := by unfold clsF; rw [if_neg (by omega), if_neg (by omega), if_neg (by omega), if_pos hs]
      have hB : bitB k f = 0 := by unfold bitB; rw [if_neg (by omega), if_pos hk2, if_pos hs]
      have hT : bitT k p f = f.mag * 2 ^ (f.exp - ti k p).toNat := by unfold bitT; rw [if_neg (by omega), if_pos hk2, if_pos hs]
      rw [hc1] at hcl
      rw [hB, hT]
      have htn := fun w => rtiny_c k p w ⟨hk1, hk2', hp1, hp2⟩
      have hlf := fun A2 c2 w h => rleft_i A2 c2 (cn f.mag) (f.exp - ti k p) w h (by omega) (by omega) (by omega)
      rw [val_cn] at hlf
      have e3 : IntKind.i64.wrap (f.exp - ti k p) = f.exp - ti k p := by rw [IntKind.wrap_i64]; omega
      generalize f.mag * 2 ^ (f.exp - ti k p).toNat = M at *
      generalize cn f.mag = ms at *
      generalize ti k p = T at *
      generalize f.exp = E at *
      subst hkn
      clear hB hT hc1 hs hle hti hg hfe hbl hm i1 i2 i3 hbl1 hex hP2 hf hin hokk hok hk2 hlo hhi
      go_enter Tryd.func71, Tryd.ntmps71
      go_wp2_with fail
      have hF := HF.out
      have hA := HA.out
      have hX := HX.out
      clear HF HA HX
      generalize ((w.alloc (.cells #[.int .i64 (n : Int), .int .i64 p] 28)).alloc (.cells #[.int .i64 1, .bool neg, .int .i64 e, .slice A xs.length c] 43)) = W at *
      refine (hcl _ (h.ext hA)).mono ?_
      rintro z w1 ⟨rfl, hb1⟩
      obtain ⟨f0, f1⟩ := (hF.ext hb1).facts
      obtain ⟨x0, x1, x2, x3, -⟩ := (hX.ext hb1).facts
      go_wp2_with fail
      refine (hod _ ((h.ext hA).ext hb1)).mono ?_
      rintro z w2 ⟨v, rfl, ho2, hb2⟩
      obtain ⟨A2, c2, rfl, hr2⟩ := ho2.rd
      clear f0 f1 x0 x1 x2 x3
      obtain ⟨f0, f1⟩ := ((hF.ext hb1).ext hb2).facts
      obtain ⟨x0, x1, x2, x3, -⟩ := ((hX.ext hb1).ext hb2).facts
      go_wp2_with fail
      refine (hcl _ (((h.ext hA).ext hb1).ext hb2)).mono ?_
      rintro z w3 ⟨rfl, hb3⟩
      clear f0 f1 x0 x1 x2 x3
      obtain ⟨f0, f1⟩ := (((hF.ext hb1).ext hb2).ext hb3).facts
      go_wp2_with fail
      refine (htn _).mono ?_
      rintro z w4 ⟨rfl, hb4⟩
      go_wp2_with fail
      refine (hlf A2 c2 _ ((hr2.ext hb3).ext hb4)).mono ?_
      rintro z w5 ⟨v, rfl, ho5, hb5⟩
      go_wp2
      go_ret2
      have hE := (((hA.tr hb1).tr hb2).tr hb3).tr hb4
      exact ⟨_, rfl, ho5.low hE.size, hE.tr hb5⟩
    · have hc1 : clsF k f = 2 := by unfold clsF; rw [if_neg (by omega), if_neg (by omega), if_neg (by omega), if_neg hs]
      have hB : ((bitB k f : Nat) : Int) = (bl (val xs) : Int) - 1 + e + gr k := by unfold bitB; rw [if_neg (by omega), if_pos hk2, if_neg hs]; omega
      have hT : bitT k p f = f.mag * 2 ^ (p - bl f.mag).toNat % 2 ^ (p - 1).toNat := by unfold bitT; rw [if_neg (by omega), if_pos hk2, if_neg hs]
      rw [hc1] at hcl
      rw [hB, hT]
      have hgt := fun w => rgreat_c k p w hk1 hk2'
      have hlf := fun A2 c2 w h => rleft_i A2 c2 (cn f.mag) (p - bl f.mag) w h (by omega) (by omega) (by omega)
      rw [val_cn] at hlf
      have hll : (cn (f.mag * 2 ^ (p - bl f.mag).toNat)).length ≤ 5 := by
        refine cn_len_pow (m := p.toNat) ?_ (by omega)
        have hb2 := bl_lt (n := f.mag)
        have : 2 ^ p.toNat = 2 ^ bl f.mag * 2 ^ (p - bl f.mag).toNat := by rw [← Nat.pow_add]; congr 1; omega
        rw [this]; exact Nat.mul_lt_mul_of_pos_right hb2 (Nat.pow_pos (by omega))
      have hlw := fun A2 c2 w h => rlow_i A2 c2 (cn (f.mag * 2 ^ (p - bl f.mag).toNat)) (p - 1) w h (by omega) (by omega) (by omega)
      rw [val_cn] at hlw
      have hlen := fun A2 c2 w h => rlen_c A2 c2 (cn f.mag) w h (by omega)
      rw [val_cn] at hlen
      have e3 : IntKind.i64.wrap (p - bl f.mag) = p - bl f.mag := by rw [IntKind.wrap_i64]; omega
      have e4 : IntKind.i64.wrap ((bl (val xs) : Int) - 1 + e + gr k) = (bl (val xs) : Int) - 1 + e + gr k := by rw [IntKind.wrap_i64]; omega
      have hlm : (cn f.mag).length ≤ 4096 := hcl1
      generalize f.mag * 2 ^ (p - bl f.mag).toNat % 2 ^ (p - 1).toNat = M2 at *
      generalize f.mag * 2 ^ (p - bl f.mag).toNat = M at *
      generalize cn f.mag = ms at *
      generalize cn M = Ms at *
      generalize (bl (val xs) : Int) - 1 + e = X1 at *
      generalize gr k = G at *
      generalize f.exp = E at *
      generalize bl f.mag = l at *
      subst hkn
      clear hB hT hc1 hs hle hti hg hfe hbl hm i1 i2 i3 hbl1 hP2 hf hin hokk hok hk2 hlo hhi
      go_enter Tryd.func71, Tryd.ntmps71
      go_wp2_with fail
      have hF := HF.out
      have hA := HA.out
      have hX := HX.out
      clear HF HA HX
      generalize ((w.alloc (.cells #[.int .i64 (n : Int), .int .i64 p] 28)).alloc (.cells #[.int .i64 1, .bool neg, .int .i64 e, .slice A xs.length c] 43)) = W at *
      refine (hcl _ (h.ext hA)).mono ?_
      rintro z w1 ⟨rfl, hb1⟩
      obtain ⟨f0, f1⟩ := (hF.ext hb1).facts
      obtain ⟨x0, x1, x2, x3, -⟩ := (hX.ext hb1).facts
      go_wp2_with fail
      refine (hod _ ((h.ext hA).ext hb1)).mono ?_
      rintro z w2 ⟨v, rfl, ho2, hb2⟩
      obtain ⟨A2, c2, rfl, hr2⟩ := ho2.rd
      clear f0 f1 x0 x1 x2 x3
      obtain ⟨f0, f1⟩ := ((hF.ext hb1).ext hb2).facts
      obtain ⟨x0, x1, x2, x3, -⟩ := ((hX.ext hb1).ext hb2).facts
      go_wp2_with fail
      refine (hcl _ (((h.ext hA).ext hb1).ext hb2)).mono ?_
      rintro z w3 ⟨rfl, hb3⟩
      clear f0 f1 x0 x1 x2 x3
      obtain ⟨x0, x1, x2, x3, -⟩ := (((hX.ext hb1).ext hb2).ext hb3).facts
      have hE3 := ((hA.tr hb1).tr hb2).tr hb3
      go_wp2_with fail
      refine (hex _ (h.ext hE3)).mono ?_
      rintro z w4 ⟨rfl, hb4⟩
      have hF4 := (((hF.ext hb1).ext hb2).ext hb3).ext hb4
      have hr4 := (hr2.ext hb3).ext hb4
      obtain ⟨f0, f1⟩ := hF4.facts
      clear x0 x1 x2 x3
      go_wp2_with fail
      go_region_held3 (fun w' => w'.cell? ⟨w.heap.size, 1, none⟩ = some (.int .i64 p))
        (first | go_keep | (refine Ext.cell (w := w4) (by assumption) ?_; assumption))
        (first
          | (go_at_call 80; (with_reducible refine (hlen A2 c2 _ hr4.drew).mono ?_); rintro z w5 ⟨rfl, rfl⟩)
          | (go_at_call 73; (with_reducible refine (hlf A2 c2 _ hr4.drew).mono ?_); rintro z w6 ⟨v, rfl, ho6, hb6⟩; have hE6 : Ext w4 w6 := (Ext.refl w4).drew.tr hb6; obtain ⟨A6, c6, rfl, hr6⟩ := ho6.rd))
      go_wp2_with fail
      obtain ⟨g0, g1⟩ := (hF4.ext hE6).facts
      clear f0 f1
      go_region_held3 (fun w' => w'.cell? ⟨w.heap.size, 0, none⟩ = some (.int .i64 (n : Int)) ∧ w'.cell? ⟨w.heap.size, 1, none⟩ = some (.int .i64 p))
        (first | go_keep | (go_split_ands; refine ⟨?_, ?_⟩ <;> (refine Ext.cell (w := w6) (by assumption) ?_; assumption)))
        (first
          | (go_at_call 39; (with_reducible refine (hgt _).mono ?_); rintro z w7 ⟨rfl, hb7⟩; have hE7 : Ext w6 w7 := (Ext.refl w6).drew.tr hb7)
          | (go_at_call 82; (with_reducible refine (hlw A6 c6 _ (hr6.ext hE7)).mono ?_); rintro z w8 ⟨v, rfl, ho8, hb8⟩; have hE8 : Ext w6 w8 := hE7.tr hb8))
      go_wp2
      go_ret2
      have hE := ((hE3.tr hb4).tr hE6).tr hE7
      exact ⟨_, rfl, ho8.low hE.size, hE.tr hb8⟩
  · have hBn : f.kind ≠ 0 → bitB k f = P - 1 := fun h0 => by unfold bitB; rw [if_neg h0, if_neg (by omega), hP2, show k.toNat = n by omega]
    rcases (show kd = 0 ∨ kd = 2 ∨ kd = 3 by omega) with rfl | rfl | rfl
    · have hc1 : clsF k f = 0 := by unfold clsF; rw [if_pos hk2]
      have hB : bitB k f = 0 := by unfold bitB; rw [if_pos hk2]
      have hT : bitT k p f = 0 := by unfold bitT; rw [if_pos hk2]
      rw [hc1] at hcl
      rw [hB, hT, show cn 0 = [] from digs_zero B]
      subst hkn
      clear hc1 hB hT hBn hf hin hokk hok hk2 hk hP2
      go_enter Tryd.func71, Tryd.ntmps71
      go_wp2_with (go_at_call 46; refine (hcl _ (h.ext HA.out)).mono ?_; rintro z w1 ⟨rfl, hb1⟩)
      go_ret2
      exact ⟨_, rfl, Own.nil _ _, HA.out.tr hb1⟩
    · have hc1 : clsF k f = 3 := by unfold clsF; rw [if_neg (by omega), if_pos hk2]
      have hT : bitT k p f = 0 := by unfold bitT; rw [if_neg (by omega), if_neg (by omega), if_neg (by omega)]
      rw [hc1] at hcl
      rw [hBn (by omega), hT, show cn 0 = [] from digs_zero B]
      have hPc : ((P - 1 : Nat) : Int) = (P : Int) - 1 := by omega
      rw [hPc]
      subst hkn
      clear hc1 hT hBn hf hin hokk hok hk2 hk hP2 hPc
      go_enter Tryd.func71, Tryd.ntmps71
      go_wp2_with (go_at_call 46; refine (hcl _ (h.ext HA.out)).mono ?_; rintro z w1 ⟨rfl, hb1⟩)
      go_ret2
      exact ⟨_, rfl, Own.nil _ _, HA.out.tr hb1⟩
    · have hc1 : clsF k f = 4 := by unfold clsF; rw [if_neg (by omega), if_neg (by omega), if_pos hk2]
      have hT : bitT k p f = 2 ^ (p - 2).toNat := by unfold bitT; rw [if_neg (by omega), if_neg (by omega), if_pos hk2]
      rw [hc1] at hcl
      rw [hBn (by omega), hT]
      have hPc : ((P - 1 : Nat) : Int) = (P : Int) - 1 := by omega
      rw [hPc]
      have hfw : ∀ w, Calls Tryd.prog 74 #[.int .u64 1] w (Res w (cn 1)) := fun w => rfrom_c 1 w (by decide +kernel)
      have hlf := fun A2 c2 w h => rleft_i A2 c2 (cn 1) (p - 2) w h (by omega) (by omega) (by have := (cn_len_le 1 1).2 (by decide +kernel); omega)
      rw [val_cn, Nat.one_mul] at hlf
      generalize 2 ^ (p - 2).toNat = M at *
      generalize cn 1 = ones at *
      subst hkn
      clear hc1 hT hBn hf hin hokk hok hk2 hk hP2 hPc
      go_enter Tryd.func71, Tryd.ntmps71
      go_wp2_with fail
      have hF := HF.out
      have hA := HA.out
      clear HF HA HX
      generalize ((w.alloc (.cells #[.int .i64 (n : Int), .int .i64 p] 28)).alloc (.cells #[.int .i64 3, .bool neg, .int .i64 e, .slice A xs.length c] 43)) = W at *
      refine (hcl _ (h.ext hA)).mono ?_
      rintro z w1 ⟨rfl, hb1⟩
      obtain ⟨f0, f1⟩ := (hF.ext hb1).facts
      go_wp2_with fail
      go_region_held3 (fun w' => w'.cell? ⟨w.heap.size, 1, none⟩ = some (.int .i64 p))
        (first | go_keep | (refine Ext.cell (w := w1) (by assumption) ?_; assumption))
        (first
          | (go_at_call 74; (with_reducible refine (hfw _).mono ?_); rintro z w5 ⟨v, rfl, ho5, hb5⟩; have hE5 : Ext w1 w5 := (Ext.refl w1).drew.tr hb5; obtain ⟨A5, c5, rfl, hr5⟩ := ho5.rd)
          | (go_at_call 73; (with_reducible refine (hlf A5 c5 _ hr5).mono ?_); rintro z w6 ⟨v, rfl, ho6, hb6⟩; have hE6 : Ext w1 w6 := hE5.tr hb6))
      go_wp2
      go_ret2
      have hE := (hA.tr hb1).tr hE5
      exact ⟨_, rfl, ho6.low hE.size, hE.tr hb6⟩
theorem rone_c (w : World) : Calls Tryd.prog 74 #[.int .u64 1] w (Res w (cn 1)) := rfrom_c 1 w (by decide +kernel)
theorem one_len : (cn 1).length ≤ 1 := (cn_len_le 1 1).2 (by decide +kernel)
set_option maxHeartbeats 2000000 in
set_option maxRecDepth 100000 in
theorem rencode_c (k p : Int) (hR : Rgt k p) (kd e : Int) (neg : Bool) (A : Option Addr) (c : Nat) (xs : List Nat) (w : World) (h : Rd w A c xs) (hl : xs.length ≤ 4096) (f : Fl) (hf : canon kd neg e (val xs) = some f) (hin : InF k p f) :
    Calls Tryd.prog 26 #[.agg #[.int .i64 k, .int .i64 p], flV kd neg e (.slice A xs.length c)] w (Res w (cn (encM k p f + if neg = true then 2 ^ (k + p - 1).toNat else 0))) := by
  obtain ⟨tot, htot⟩ : ∃ tot, encM k p f + (if neg = true then 2 ^ (k + p - 1).toNat else 0) = tot := ⟨_, rfl⟩
  rw [htot]
  have hF := Bg.new w (.int .i64 k) (.int .i64 p)
  have hA := (Ext.refl w).al (.cells #[.int .i64 k, .int .i64 p] 28)
  have hF2 := hF.ext ((Ext.refl _).al (.cells #[.int .i64 kd, .bool neg, .int .i64 e, .slice A xs.length c] 43))
  have hA2 := hA.al (.cells #[.int .i64 kd, .bool neg, .int .i64 e, .slice A xs.length c] 43)
  have hX := Br.new (w.alloc (.cells #[.int .i64 k, .int .i64 p] 28)) (.int .i64 kd) (.bool neg) (.int .i64 e) (.slice A xs.length c)
  rw [World.size_alloc] at hX
  have hokk := canon_ok hf
  have hbt := fun w h => rbits15_c k p hR kd e neg A c xs w h hl f hf hin
  have hBl := bitB_lt hR hokk hin
  have hTl := bitT_len hR hokk hin
  have hMl := encM_len hR hokk hin
  have heb := enc_bits hR hokk hin
  obtain ⟨hk1, hk2, hp1, hp2⟩ := hR
  have e1 : IntKind.i64.wrap (p - 1) = p - 1 := by rw [IntKind.wrap_i64]; omega
  have e2 : IntKind.i64.wrap (k + p) = k + p := by rw [IntKind.wrap_i64]; omega
  have e3 : IntKind.i64.wrap (k + p - 1) = k + p - 1 := by rw [IntKind.wrap_i64]; omega
  have HF := Lib.hid hF2
  have HA := Lib.hid hA2
  have HX := Lib.hid hX
  generalize bitB k f = b at *
  generalize bitT k p f = t at *
  generalize encM k p f = M at *
  have HTOT := Lib.hid htot
  clear htot
  have hbl1 : (cn b).length ≤ 1 := (cn_len_le b 1).2 (by rw [Nat.pow_one, B_eq]; omega)
  have hfw := fun w => rfrom_c b w (by rw [B_eq]; omega)
  have hlf := fun A2 c2 w h => rleft_i A2 c2 (cn b) (p - 1) w h (by omega) (by omega) (by omega)
  rw [val_cn] at hlf
  have hl2 : (cn (b * 2 ^ (p - 1).toNat)).length ≤ 5 := Nat.le_trans (cn_len_mono (by rw [← heb]; exact Nat.le_add_right _ _)) hMl
  have hc1 : IntKind.u64.wrap (b : Int) = (b : Int) := by rw [IntKind.wrap_u64]; omega
  have HEB := Lib.hid heb
  generalize b * 2 ^ (p - 1).toNat = L at *
  clear hF hA hF2 hA2 hX hf hin hokk heb
  go_enter Tryd.func26, Tryd.ntmps26
  go_wp2_with fail
  have hF := HF.out
  have hA := HA.out
  have hX := HX.out
  clear HF HA HX
  generalize ((w.alloc (.cells #[.int .i64 k, .int .i64 p] 28)).alloc (.cells #[.int .i64 kd, .bool neg, .int .i64 e, .slice A xs.length c] 43)) = W at *
  refine (hbt _ (h.ext hA)).mono ?_
  rintro z w1 ⟨v, rfl, hov, hb1⟩
  obtain ⟨A1, c1, rfl, hr1⟩ := hov.rd
  have hF1 := hF.ext hb1
  have hX1 := hX.ext hb1
  obtain ⟨f0, f1⟩ := hF1.facts
  have hE1 := hA.tr hb1
  clear hbt hA hb1 hF hX hov
  go_wp2_with fail
  go_region_held3 (fun w' => w'.cell? ⟨w.heap.size, 1, none⟩ = some (.int .i64 p))
    (first | go_keep | (refine Ext.cell (w := w1) (by assumption) ?_; assumption))
    (first
      | (go_at_call 74; (with_reducible refine (hfw _).mono ?_); rintro z w2 ⟨v, rfl, ho2, hb2⟩; have hE2 : Ext w1 w2 := (Ext.refl w1).drew.tr hb2; obtain ⟨A2, c2, rfl, hr2⟩ := ho2.rd)
      | (go_at_call 73; (with_reducible refine (hlf A2 c2 _ hr2).mono ?_); rintro z w3 ⟨v, rfl, ho3, hb3⟩; have hE3 : Ext w1 w3 := hE2.tr hb3; obtain ⟨A3, c3, rfl, hr3⟩ := ho3.rd)
      | (go_at_call 72; (with_reducible refine (radd_c A3 A1 c3 c1 (cn L) (cn t) _ hr3 (hr1.ext hE3) ?h1 ?h2).mono ?_); (case h1 => omega); (case h2 => omega); rintro z w4 ⟨v, rfl, ho4, hb4⟩; rw [val_cn, val_cn, HEB.out] at ho4; have hE4 : Ext w1 w4 := hE3.tr hb4; obtain ⟨A4, c4, rfl, hr4⟩ := ho4.rd))
  have hX4 := hX1.ext hE4
  have hF4 := hF1.ext hE4
  have ho4' := ho4.low ((hE1.tr hE3).size)
  have hE14 := hE1.tr hE4
  obtain ⟨x0, x1, x2, x3, -⟩ := hX4.facts
  clear f0 f1 hfw hlf
  cases neg
  · go_wp2
    go_ret
    have e : M = tot := by have := HTOT.out; simpa using this
    exact ⟨_, rfl, by rw [← e]; exact ho4', hE14⟩
  · have hlf := fun A2 c2 w h => rleft_i A2 c2 (cn 1) (k + p - 1) w h (by omega) (by omega) (by have := one_len; omega)
    rw [val_cn, Nat.one_mul] at hlf
    have hl5 : (cn (2 ^ (k + p - 1).toNat)).length ≤ 5 := cn_len_pow (m := (k + p - 1).toNat + 1) (Nat.pow_lt_pow_right (by omega) (by omega)) (by omega)
    have e : M + 2 ^ (k + p - 1).toNat = tot := by have := HTOT.out; simpa using this
    have HTO := Lib.hid e
    clear HTOT e
    generalize 2 ^ (k + p - 1).toNat = S at *
    have hone := rone_c
    generalize cn 1 = ones at *
    go_wp2_with fail
    obtain ⟨f0, f1⟩ := hF4.facts
    clear x0 x1 x2 x3
    go_region_held3 (fun w' => w'.cell? ⟨w.heap.size, 0, none⟩ = some (.int .i64 k) ∧ w'.cell? ⟨w.heap.size, 1, none⟩ = some (.int .i64 p))
      (first | go_keep | (go_split_ands; refine ⟨?_, ?_⟩ <;> (refine Ext.cell (w := w4) (by assumption) ?_; assumption)))
      (first
        | (go_at_call 74; (with_reducible refine (hone _).mono ?_); rintro z w5 ⟨v, rfl, ho5, hb5⟩; have hE5 : Ext w4 w5 := (Ext.refl w4).drew.tr hb5; obtain ⟨A5, c5, rfl, hr5⟩ := ho5.rd)
        | (go_at_call 73; (with_reducible refine (hlf A5 c5 _ hr5).mono ?_); rintro z w6 ⟨v, rfl, ho6, hb6⟩; have hE6 : Ext w4 w6 := hE5.tr hb6; obtain ⟨A6, c6, rfl, hr6⟩ := ho6.rd)
        | (go_at_call 72; (with_reducible refine (radd_c A4 A6 c4 c6 (cn M) (cn S) _ (hr4.ext hE6) hr6 ?h1 ?h2).mono ?_); (case h1 => omega); (case h2 => omega); rintro z w7 ⟨v, rfl, ho7, hb7⟩; rw [val_cn, val_cn] at ho7; have hE7 : Ext w4 w7 := hE6.tr hb7))
    go_wp2
    go_ret
    have hE := hE14.tr hE6
    rw [HTO.out] at ho7
    exact ⟨_, rfl, ho7.low hE.size, hE.tr hb7⟩
end Go.Proofs.YtplnaajoeoiieaaDoor
