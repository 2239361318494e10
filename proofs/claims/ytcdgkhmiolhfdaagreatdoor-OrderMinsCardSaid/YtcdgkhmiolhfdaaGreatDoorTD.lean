/- The float of a float's number is the float; floats in order of their numbers; neighbours: the plain laws of chapter 21. -/
import Derived.Test.YtcdgkhmiolhfdaaGreatDoorOE
import Derived.Test.YtcdgkhmiolhfdaaGreatDoorS9
set_option linter.unusedVariables false
set_option linter.unusedSimpArgs false
namespace Go.Proofs.YtcdgkhmiolhfdaaGreatDoor
open Go.RowKit

theorem bitB_of {k p : Int} {f : Fl} (hR : Rgt k p) (hf : FOf k p f) (h1 : f.kind = 1) : bitB k f + 1 < 2 ^ k.toNat := by
  obtain ⟨hk1, hk2, hp1, hp2⟩ := hR
  have hgg := two_gr hk1 hk2
  have hg := gr_bd hk1 hk2
  obtain ⟨i1, i2, i3⟩ := hf.inn h1
  have hle : le k = 1 - gr k := rfl
  have h4 : 2 ^ 2 ≤ 2 ^ k.toNat := Nat.pow_le_pow_right (by omega) (by omega)
  unfold bitB
  rw [if_neg (by omega), if_pos h1]
  split <;> omega
theorem dec_of_enc {k p : Int} {f : Fl} (hR : Rgt k p) (hf : FOf k p f) (h3 : f.kind ≠ 3) : decF k p (encM k p f) = ⟨f.kind, false, f.exp, f.mag⟩ := by
  have hlt := enc_lt hR hf.ok hf.inn
  have hb := enc_bits hR hf.ok hf.inn
  have hR' := hR
  obtain ⟨hk1, hk2, hp1, hp2⟩ := hR
  have hgg := two_gr hk1 hk2
  have hg := gr_bd hk1 hk2
  have e1 : (p - 1).toNat = p.toNat - 1 := by omega
  rw [e1] at hb
  have hP := Nat.two_pow_pos (p.toNat - 1)
  have h4 : 2 ^ 2 ≤ 2 ^ k.toNat := Nat.pow_le_pow_right (by omega) (by omega)
  have hkind := hf.ok.kind
  have hle : le k = 1 - gr k := rfl
  have hti : ti k p = 1 - gr k - (p - 1) := rfl
  have hT : bitT k p f < 2 ^ (p.toNat - 1) := by
    unfold bitT
    split
    · exact hP
    · split
      · rename_i h1
        obtain ⟨i1, i2, i3⟩ := hf.inn h1
        split
        · rename_i hs
          have hm := bl_lt (n := f.mag)
          have : 2 ^ bl f.mag * 2 ^ (f.exp - ti k p).toNat ≤ 2 ^ (p.toNat - 1) := by
            rw [← Nat.pow_add]; exact Nat.pow_le_pow_right (by omega) (by omega)
          exact Nat.lt_of_lt_of_le (Nat.mul_lt_mul_of_pos_right hm (Nat.two_pow_pos _)) this
        · rw [e1]; exact Nat.mod_lt _ hP
      · first | exact hP | (rw [if_neg h3]; exact hP)
  have hBQ : bitB k f < 2 ^ k.toNat := by
    by_cases h1 : f.kind = 1
    · have := bitB_of hR' hf h1; omega
    · unfold bitB
      split
      · omega
      · omega
  have dN0 : dN k p (encM k p f) = false := Nat.testBit_lt_two_pow hlt
  have dB0 : dB k p (encM k p f) = bitB k f := by
    unfold dB
    rw [← hb, Nat.mul_comm, Nat.mul_add_div hP, Nat.div_eq_of_lt hT, Nat.add_zero, Nat.mod_eq_of_lt hBQ]
  have dL0 : dL p (encM k p f) = bitT k p f := by
    unfold dL
    rw [← hb, Nat.mul_comm, Nat.mul_add_mod, Nat.mod_eq_of_lt hT]
  rcases (show f.kind = 0 ∨ f.kind = 1 ∨ f.kind = 2 by omega) with h0 | h1 | h2
  · obtain ⟨z1, z2⟩ := hf.ok.zero (by omega)
    have b0 : bitB k f = 0 := by unfold bitB; rw [if_pos h0]
    have t0 : bitT k p f = 0 := by unfold bitT; rw [if_pos h0]
    unfold decF
    rw [dB0, dL0, dN0, b0, t0, if_neg (by omega), if_pos ⟨rfl, rfl⟩, h0, z1, z2]
  · obtain ⟨i1, i2, i3⟩ := hf.inn h1
    have hodd := hf.ok.odd h1
    have hm : 0 < f.mag := by omega
    have hmax := bitB_of hR' hf h1
    have htz : ∀ s, tz (f.mag * 2 ^ s) = s := fun s => by
      rw [Nat.mul_comm]
      have : f.mag = 2 * (f.mag / 2) + 1 := by omega
      rw [this]
      exact tz_unique s _
    have hdv : ∀ s, f.mag * 2 ^ s / 2 ^ s = f.mag := fun s => Nat.mul_div_cancel _ (Nat.two_pow_pos s)
    by_cases hs : f.exp + bl f.mag - 1 < le k
    · have b0 : bitB k f = 0 := by unfold bitB; rw [if_neg (by omega), if_pos h1, if_pos hs]
      have t0 : bitT k p f = f.mag * 2 ^ (f.exp - ti k p).toNat := by unfold bitT; rw [if_neg (by omega), if_pos h1, if_pos hs]
      have hpos : 0 < f.mag * 2 ^ (f.exp - ti k p).toNat := Nat.mul_pos hm (Nat.two_pow_pos _)
      unfold decF dM dE
      rw [dB0, dL0, dN0, b0, t0, if_neg (by omega), if_neg (by omega), if_pos rfl, if_pos rfl, htz, hdv, h1]
      simp only [Fl.mk.injEq, true_and, and_true]
      omega
    · have b0 : bitB k f = (f.exp + bl f.mag - 1 + gr k).toNat := by unfold bitB; rw [if_neg (by omega), if_pos h1, if_neg hs]
      have hbp := bl_pos hm
      have x1 : 2 ^ (p.toNat - 1) ≤ f.mag * 2 ^ (p - bl f.mag).toNat := by
        have : 2 ^ (p.toNat - 1) = 2 ^ (bl f.mag - 1) * 2 ^ (p - bl f.mag).toNat := by rw [← Nat.pow_add]; congr 1; omega
        rw [this]; exact Nat.mul_le_mul_right _ (bl_ge hm)
      have x2 : f.mag * 2 ^ (p - bl f.mag).toNat < 2 * 2 ^ (p.toNat - 1) := by
        have : 2 * 2 ^ (p.toNat - 1) = 2 ^ bl f.mag * 2 ^ (p - bl f.mag).toNat := by rw [← Nat.pow_succ', ← Nat.pow_add]; congr 1; omega
        rw [this]; exact Nat.mul_lt_mul_of_pos_right bl_lt (Nat.pow_pos (by omega))
      have t0 : bitT k p f + 2 ^ (p.toNat - 1) = f.mag * 2 ^ (p - bl f.mag).toNat := by
        unfold bitT
        rw [if_neg (by omega), if_pos h1, if_neg hs, e1]
        generalize f.mag * 2 ^ (p - bl f.mag).toNat = x at *
        generalize 2 ^ (p.toNat - 1) = q at *
        rw [Nat.mod_eq_sub_mod x1, Nat.mod_eq_of_lt (by omega)]
        omega
      have hb1 : bitB k f ≠ 0 := by omega
      unfold decF dM dE
      rw [dB0, dL0, dN0, if_neg (by omega), if_neg (by omega), if_neg hb1, if_neg hb1, t0, htz, hdv, h1]
      simp only [Fl.mk.injEq, true_and, and_true]
      omega
  · obtain ⟨z1, z2⟩ := hf.ok.zero (by omega)
    have b0 : bitB k f = 2 ^ k.toNat - 1 := by unfold bitB; rw [if_neg (by omega), if_neg (by omega)]
    have t0 : bitT k p f = 0 := by unfold bitT; rw [if_neg (by omega), if_neg (by omega), if_neg h3]
    unfold decF
    rw [dB0, dL0, dN0, b0, t0, if_pos rfl, if_pos rfl, h2, z1, z2]
theorem fl_eq_of_enc {k p : Int} {f g : Fl} (hR : Rgt k p) (hf : FOf k p f) (hg : FOf k p g) (hf3 : f.kind ≠ 3) (hg3 : g.kind ≠ 3) (he : encM k p f = encM k p g) (hn : f.neg = g.neg) : f = g := by
  have h1 := dec_of_enc hR hf hf3
  have h2 := dec_of_enc hR hg hg3
  rw [he, h2] at h1
  obtain ⟨a, b, c, d⟩ := f
  obtain ⟨a', b', c', d'⟩ := g
  simp only [Fl.mk.injEq, true_and] at h1 hn ⊢
  exact ⟨h1.1.symm, hn, h1.2.1.symm, h1.2.2.symm⟩
theorem nan_of {k p : Int} {f : Fl} (hf : FOf k p f) (h3 : f.kind = 3) : f = ⟨3, false, 0, 0⟩ := by
  have h1 := hf.ok.nan h3
  obtain ⟨h2, h4⟩ := hf.ok.zero (by omega)
  obtain ⟨a, b, c, d⟩ := f
  simp only at h1 h2 h3 h4
  rw [h1, h2, h3, h4]
/-- A number by which floats are ordered. -/
def key (k p : Int) (f : Fl) : Int := if f.kind = 3 then 4 * (2 ^ (k.toNat + p.toNat - 1) : Nat) else 2 * idx k p f - (if f.neg = true then 1 else 0)
theorem tot_key {k p : Int} {f g : Fl} (hR : Rgt k p) (hf : FOf k p f) (hg : FOf k p g) : totF k p f g = sgn (key k p f - key k p g) := by
  have h1 := idx_lt hR hf
  have h2 := idx_lt hR hg
  unfold totF key
  generalize 2 ^ (k.toNat + p.toNat - 1) = H at *
  generalize idx k p f = I at *
  generalize idx k p g = J at *
  have hs : ∀ z : Int, sgn z = if z < 0 then -1 else if 0 < z then 1 else 0 := fun z => rfl
  by_cases hk1 : f.kind = 3 <;> by_cases hk2 : g.kind = 3
  · rw [if_pos hk1, if_pos hk2, if_pos hk1, if_pos hk2, Int.sub_self]; rfl
  · rw [if_pos hk1, if_neg hk2, if_pos hk1, if_neg hk2, hs]
    cases g.neg <;> simp <;> omega
  · rw [if_neg hk1, if_pos hk2, if_neg hk1, if_pos hk2, hs]
    cases f.neg <;> simp <;> omega
  · rw [if_neg hk1, if_neg hk2, if_neg hk1, if_neg hk2, hs, hs]
    cases f.neg <;> cases g.neg <;> simp <;> omega
theorem key_inj {k p : Int} {f g : Fl} (hR : Rgt k p) (hf : FOf k p f) (hg : FOf k p g) (h : key k p f = key k p g) : f = g := by
  have h1 := idx_lt hR hf
  have h2 := idx_lt hR hg
  by_cases hk1 : f.kind = 3 <;> by_cases hk2 : g.kind = 3
  · rw [nan_of hf hk1, nan_of hg hk2]
  · unfold key at h
    rw [if_pos hk1, if_neg hk2] at h
    generalize 2 ^ (k.toNat + p.toNat - 1) = H at *
    revert h
    cases g.neg <;> simp <;> omega
  · unfold key at h
    rw [if_neg hk1, if_pos hk2] at h
    generalize 2 ^ (k.toNat + p.toNat - 1) = H at *
    revert h
    cases f.neg <;> simp <;> omega
  · unfold key at h
    rw [if_neg hk1, if_neg hk2] at h
    have hn : f.neg = g.neg := by
      revert h
      cases f.neg <;> cases g.neg <;> simp <;> omega
    have hI : idx k p f = idx k p g := by rw [hn] at h; omega
    refine fl_eq_of_enc hR hf hg hk1 hk2 ?_ hn
    have := congrArg Int.natAbs hI
    unfold idx at this
    rwa [sg_abs, sg_abs] at this
theorem same_key {k p : Int} {f g : Fl} (hR : Rgt k p) (hf : FOf k p f) (hg : FOf k p g) : (totF k p f g == 0) = sameO (some f) (some g) := by
  rw [tot_key hR hf hg]
  by_cases h : key k p f = key k p g
  · have := key_inj hR hf hg h
    subst this
    rw [sameO_self, Int.sub_self]; rfl
  · have h1 : (sgn (key k p f - key k p g) == 0) = false := by
      rw [beq_eq_false_iff_ne]
      unfold sgn
      split
      · omega
      · split <;> omega
    rw [h1]
    symm
    rw [Bool.eq_false_iff]
    intro hs
    apply h
    unfold sameO at hs
    simp only [Bool.and_eq_true, beq_iff_eq, cmp3_zero, decide_eq_true_eq] at hs
    obtain ⟨a, b, c, d⟩ := f
    obtain ⟨a', b', c', d'⟩ := g
    obtain ⟨⟨⟨rfl, rfl⟩, rfl⟩, hm⟩ := hs
    have hm' : d = d' := hm
    subst hm'
    rfl
end Go.Proofs.YtcdgkhmiolhfdaaGreatDoor
